/- The reference's cache: Forget. -/
import Derived.Test.YtpnbjpkdbiiogaaTj
import Derived.Test.YtpnbjpkdbiiogaaTg
import Derived.Outline
import Derived.Test.YtpnbjpkdbiiogaaProg
import Derived.Deep.Slices
import Derived.Deep.Fields
import Derived.ChangeSame
import Derived.Test.YtpnbjpkdbiiogaaWWords
namespace Go.Proofs.Ytpnbjpkdbiiogaa
set_option linter.unusedVariables false
open Go.RowKit Go.Maps Go.Proofs.YtpnbjpkdbiiogaaW.PrintWords
attribute [local go_sem] mx2 mn2 mxTwo mnTwo

theorem take_filter {L : List PcV} {j : Nat} (f : PcV → Bool) (h : j < L.length) : (L.take (j + 1)).filter f = (L.take j).filter f ++ (if f (L.getD j zPv) then [L.getD j zPv] else []) := by
  have e : L.getD j zPv = L[j] := by rw [List.getD_eq_getElem?_getD, List.getElem?_eq_getElem h]; rfl
  rw [List.take_succ_eq_append_getElem h, List.filter_append, e]
  congr 1
  by_cases hf : f L[j] <;> simp [hf]
set_option maxHeartbeats 2000000 in
set_option maxRecDepth 100000 in
theorem rcforget_any (b g mostN G : Nat) (s : WSt) (w : World) (h : RC w b (fun _ => True) g mostN s) (ok : OkW mostN s G) (hG : G ≤ 1000000) (nm : ByteArray) (k : Int) :
    Calls Try.prog 67 #[.pointer (some ⟨g, 0, none⟩), .string nm, .int .i64 k] w fun e w' => e = .returned (.int .i64 (forgotN nm k s)) ∧ RC w' b (fun _ => True) g mostN (forgetS nm k s) ∧ KeepBut w w' g none ∧ Below b w w' := by
  obtain ⟨⟨vL, hb, hq⟩, hg, hx⟩ := h
  obtain ⟨A1, c1, rfl, hlc⟩ := Kd.Q_slice hq
  have hl : s.L.length ≤ 1000000 := by have := ok.cnt; omega
  have HOKP := Aside0.mk ok.ok
  have HB0 := Aside0.mk hb
  have HQ := Aside0.mk hq
  have S0 := Aside0.mk ((blk_cell hb 0).trans (rfl : _ = some (Value.slice A1 s.L.length c1)))
  have hbw : b ≤ w.heap.size := Nat.le_trans hg (Nat.le_of_lt (blk_lt hb))
  clear hb hq ok hx
  go_enter Try.func67, Try.ntmps67
  go_wp2_with fail
  go_loopg [7, 8] s.L.length (fun z v7 v8 wr => ∃ j : Nat, v8 = .int .i64 (j : Int) ∧ j ≤ s.L.length ∧ Aside0 (z = s.L.length - j) ∧ Aside0 (Kd.R kPv 168 wr b (fun _ => True) v7 ((s.L.take j).filter (staysP nm k))) ∧ Aside0 (∀ q, v7.ownBlock = some q → w.heap.size ≤ q) ∧ Aside0 (Below w.heap.size w wr))
  case atStart => exact ⟨0, rfl, Nat.zero_le _, ⟨rfl⟩, ⟨Kd.R_nil _ _ _ _ _⟩, ⟨fun q e => by simp [Value.ownBlock] at e⟩, ⟨Below.refl _ _⟩⟩
  case round =>
    obtain ⟨j, rfl, hj, hz, HO, HG, HB⟩ := hrel
    have s0 := pw_cell_below HB.out S0.out
    by_cases hlt : j < s.L.length
    · obtain ⟨ad, A2, c2, rfl, r1, r2, r3, r4⟩ := at_Pv HQ.out j (by omega)
      have R4 := Aside0.mk r4
      replace r1 := pw_cell_below HB.out r1
      replace r2 := pw_cell_below HB.out r2
      replace r3 := pw_cell_below HB.out r3
      have hpo := HOKP.out (s.L.getD j zPv) (by rw [List.getD_eq_getElem?_getD, List.getElem?_eq_getElem hlt]; exact List.getElem_mem hlt)
      obtain ⟨p, hp⟩ : ∃ p, p = s.L.getD j zPv := ⟨_, rfl⟩
      rw [← hp] at r1 r2 r3 R4 hpo
      have HP := Aside0.mk hp
      have hpn0 := hpo.2.1
      have hpn1 := hpo.2.2.1
      have hpb := hpo.2.2.2
      have hw1 : IntKind.i64.wrap (p.n * 256) = p.n * 256 := by rw [IntKind.wrap_i64]; omega
      have hw2 : IntKind.i64.wrap (p.n * 256 + 255) = p.n * 256 + 255 := by rw [IntKind.wrap_i64]; omega
      clear r4 hp hpo
      by_cases hs : p.nm = nm
      · have e1 := bs_eq _ _ hs
        by_cases hf : p.n * 256 + 255 < k
        · have d1 : decide (p.n * 256 + 255 < k) = true := decide_eq_true hf
          have HST := Aside0.mk (show staysP nm k p = true by unfold staysP; rw [decide_eq_true hs, decide_eq_false (by omega)]; rfl)
          clear hs hf
          have HKE := Aside0.mk (show (s.L.take (j + 1)).filter (staysP nm k) = (s.L.take j).filter (staysP nm k) ++ [p] by rw [take_filter _ hlt, ← HP.out, if_pos HST.out])
          have HFL := Aside0.mk (show ((s.L.take j).filter (staysP nm k)).length ≤ 1000000 by
            have h1 := List.length_filter_le (staysP nm k) (s.L.take j)
            rw [List.length_take] at h1
            omega)
          go_wp2_with (at_builtin; refine Kd.R_append kPv (w0 := w) b rfl (.tmp 43) (.tmp 51) 101 168 (.agg #[(.string ⟨#[]⟩), (.int .i64 0), (.slice none 0 0)]) 48 rfl Try.underlying101 infoPv rfl (by decide) (by omega) u7 _ p [.string p.nm, .int .i64 p.n, .slice A2 p.b.length c2] (fun _ => True) (fun q => q < w.heap.size) rfl rfl (kPv_mkM _ _ _ p (Kd.R_below (Kd.R_mono (Kd.R_bound R4.out) (fun q hq => hq.2.2.1)) HB.out)) (fun q hq => ⟨trivial, fun e => by have h8 : q < w.heap.size := hq; have h9 := HG.out q e.symm; omega⟩) (fun _ _ => trivial) HO.out (HB.out.mono hbw) (Nat.le_trans hbw HB.out.size) (by have := HFL.out; omega) ?_; intro v5 w5 h5 hb5 hg5 hat5; rw [← HKE.out] at h5; have HO5 := Aside0.mk h5; have hG5 : ∀ q, v5.ownBlock = some q → w.heap.size ≤ q := fun q e => hat5.elim (fun e5 => HG.out q (e5.symm.trans e)) (fun ⟨r, e5, hr⟩ => by (rw [e5] at e; have e' := Option.some.inj e; have := HB.out.size; omega)); have HG5 := Aside0.mk hG5; have HB5 := Aside0.mk (show Below w.heap.size w w5 from ⟨hb5.os, hb5.tape, hb5.output, hb5.size, fun q hq => (hg5.block q (Nat.lt_of_lt_of_le hq HB.out.size) (fun e => by have := HG.out q e.symm; omega)).trans (HB.out.block q hq)⟩); clear h5 hb5 hg5 hat5 hG5)
          go_roundg (s.L.length - (j + 1))
          case measure => have := hz.out; omega
          case rel => exact ⟨j + 1, by go_num, by omega, ⟨rfl⟩, HO5, HG5, HB5⟩
        · have d1 : decide (p.n * 256 + 255 < k) = false := decide_eq_false hf
          have HST := Aside0.mk (show staysP nm k p = false by unfold staysP; rw [decide_eq_true hs, decide_eq_true (by omega)]; rfl)
          have HKE := Aside0.mk (show (s.L.take (j + 1)).filter (staysP nm k) = (s.L.take j).filter (staysP nm k) by rw [take_filter _ hlt, ← HP.out, HST.out]; simp)
          clear hs hf
          go_wp2_with fail
          go_roundg (s.L.length - (j + 1))
          case measure => have := hz.out; omega
          case rel => exact ⟨j + 1, by go_num, by omega, ⟨rfl⟩, ⟨by rw [HKE.out]; exact HO.out⟩, HG, HB⟩
      · have e1 := bs_ne _ _ hs
        have HST := Aside0.mk (show staysP nm k p = true by unfold staysP; rw [decide_eq_false hs]; rfl)
        clear hs
        have HKE := Aside0.mk (show (s.L.take (j + 1)).filter (staysP nm k) = (s.L.take j).filter (staysP nm k) ++ [p] by rw [take_filter _ hlt, ← HP.out, if_pos HST.out])
        have HFL := Aside0.mk (show ((s.L.take j).filter (staysP nm k)).length ≤ 1000000 by
          have h1 := List.length_filter_le (staysP nm k) (s.L.take j)
          rw [List.length_take] at h1
          omega)
        go_wp2_with (at_builtin; refine Kd.R_append kPv (w0 := w) b rfl (.tmp 43) (.tmp 51) 101 168 (.agg #[(.string ⟨#[]⟩), (.int .i64 0), (.slice none 0 0)]) 48 rfl Try.underlying101 infoPv rfl (by decide) (by omega) u7 _ p [.string p.nm, .int .i64 p.n, .slice A2 p.b.length c2] (fun _ => True) (fun q => q < w.heap.size) rfl rfl (kPv_mkM _ _ _ p (Kd.R_below (Kd.R_mono (Kd.R_bound R4.out) (fun q hq => hq.2.2.1)) HB.out)) (fun q hq => ⟨trivial, fun e => by have h8 : q < w.heap.size := hq; have h9 := HG.out q e.symm; omega⟩) (fun _ _ => trivial) HO.out (HB.out.mono hbw) (Nat.le_trans hbw HB.out.size) (by have := HFL.out; omega) ?_; intro v5 w5 h5 hb5 hg5 hat5; rw [← HKE.out] at h5; have HO5 := Aside0.mk h5; have hG5 : ∀ q, v5.ownBlock = some q → w.heap.size ≤ q := fun q e => hat5.elim (fun e5 => HG.out q (e5.symm.trans e)) (fun ⟨r, e5, hr⟩ => by (rw [e5] at e; have e' := Option.some.inj e; have := HB.out.size; omega)); have HG5 := Aside0.mk hG5; have HB5 := Aside0.mk (show Below w.heap.size w w5 from ⟨hb5.os, hb5.tape, hb5.output, hb5.size, fun q hq => (hg5.block q (Nat.lt_of_lt_of_le hq HB.out.size) (fun e => by have := HG.out q e.symm; omega)).trans (HB.out.block q hq)⟩); clear h5 hb5 hg5 hat5 hG5)
        go_roundg (s.L.length - (j + 1))
        case measure => have := hz.out; omega
        case rel => exact ⟨j + 1, by go_num, by omega, ⟨rfl⟩, HO5, HG5, HB5⟩
    · obtain rfl : j = s.L.length := by omega
      have ho := HO.out
      rw [List.take_length] at ho
      obtain ⟨A7, c7, rfl, hc7, _⟩ := Kd.R_reads ho
      have hfl := List.length_filter_le (staysP nm k) s.L
      obtain ⟨fl, hfl2⟩ : ∃ fl, fl = (s.L.filter (staysP nm k)).length := ⟨_, rfl⟩
      have hfn : (s.L.length : Int) - (fl : Int) = forgotN nm k s := by unfold forgotN; rw [hfl2]
      rw [← hfl2] at ho hfl hc7
      have hwf : IntKind.i64.wrap ((s.L.length : Int) - (fl : Int)) = (s.L.length : Int) - (fl : Int) := by rw [IntKind.wrap_i64]; omega
      have hgb := blk_below HB0.out HB.out
      have f0 := blk_frozen hgb 0
      have HGB := Aside0.mk hgb
      have HO9 := Aside0.mk ho
      have HFN := Aside0.mk hfn
      have HFL2 := Aside0.mk hfl2
      clear hgb ho hfn
      rw [← hfl2]
      clear hfl2
      go_wp2_with fail
      go_ret
      refine ⟨ret_int HFN.out, ?_, (KeepBut.of_below HB.out g none).set_ 0 _, (HB.out.mono hbw).setCell (p := ⟨g, 0, none⟩) hg _⟩
      exact RC.put (blk_put HGB.out 0 _ rfl) (Q_setC (Kd.Q_of_R HO9.out) HGB.out) hg (fun _ _ => trivial) rfl
end Go.Proofs.Ytpnbjpkdbiiogaa
/- The law on caches: the disk's state beside a cache. -/
namespace Go.Proofs.Ytpnbjpkdbiiogaa
set_option linter.unusedVariables false
open Go.RowKit Go.Maps Go.Proofs.YtpnbjpkdbiiogaaW.PrintWords
attribute [local go_sem] mx2 mn2 mxTwo mnTwo

def nmA : ByteArray := ⟨#[97]⟩
def nmB : ByteArray := ⟨#[98]⟩
def nmZ : ByteArray := ⟨#[122]⟩
def nwW (two : Bool) : List DN := if two then [(nmA, 0), (nmB, 1)] else [(nmA, 0)]
def nmOf (b : Bool) : ByteArray := if b then nmB else nmA
def idOf (b : Bool) : Int := if b then 1 else 0
theorem nwW_len (two : Bool) : (nwW two).length ≤ 2 := by cases two <;> decide
theorem nwW_ris (two : Bool) : Rising (nwW two) := by
  unfold Rising nmL
  cases two
  · simp [nwW]
  · simp [nwW, nmA, nmB]
    decide
theorem nwW_sz (two : Bool) : ∀ p ∈ nwW two, p.1.size ≤ maxLen := by cases two <;> decide
theorem nmOf_sz (b : Bool) : (nmOf b).size ≤ maxLen := by cases b <;> decide
theorem nwW_get (two b : Bool) (h : b = true → two = true) : getN (nwW two) (nmOf b) = some (idOf b) := by
  cases b
  · cases two <;> decide +kernel
  · rw [h rfl]
    decide +kernel
theorem nwW_z (two : Bool) : getN (nwW two) nmZ = none := by cases two <;> decide +kernel
theorem putsF_len : ∀ (P : List Pc) (s : List Int × List FOp), (P.foldl putF s).1.length = s.1.length ∧ (P.foldl putF s).2.length = s.2.length + P.length
  | [], s => ⟨rfl, rfl⟩
  | p :: t, s => by
    obtain ⟨h1, h2⟩ := putsF_len t (putF s p)
    obtain ⟨h3, h4⟩ := putF_len s p
    rw [List.foldl_cons, h1, h2, h3, h4]
    exact ⟨rfl, by rw [List.length_cons]; omega⟩
theorem writeF_bd (now : List Int) (ops : List FOp) (k : Nat) (l : List Int) : (writeF (now, ops) k l).1.length ≤ max now.length (k + l.length) ∧ (writeF (now, ops) k l).2.length ≤ ops.length + 1 + l.length := by
  unfold writeF
  obtain ⟨h1, h2⟩ := putsF_len (pieces k l) (growF (now, ops) k l.length)
  have h3 := pieces_len l.length l k (Nat.le_refl _)
  rw [h1, h2]
  unfold growF
  split
  · refine ⟨?_, ?_⟩
    · show (sizeL now ((k + l.length : Nat) : Int)).length ≤ _
      rw [sizeL_length, Int.toNat_natCast]
      omega
    · show (ops ++ [_]).length + _ ≤ _
      rw [List.length_append, List.length_singleton]
      omega
  · refine ⟨?_, ?_⟩
    · show now.length ≤ _
      omega
    · show ops.length + _ ≤ _
      omega
theorem fileAt_setFile (fl : List FR) (p' : FR) (i : Int) : fileAt (setFile fl p') i = if i = p'.id then (fileAt fl i).map (fun _ => p') else fileAt fl i := by
  unfold fileAt setFile
  induction fl with
  | nil => simp
  | cons q t ih =>
    rw [List.map_cons, List.find?_cons, List.find?_cons]
    by_cases h : q.id = p'.id
    · rw [if_pos h]
      by_cases hi : i = p'.id
      · have e1 : decide (p'.id = i) = true := decide_eq_true hi.symm
        have e2 : decide (q.id = i) = true := decide_eq_true (h.trans hi.symm)
        rw [e1, e2, if_pos hi]
        rfl
      · have e1 : decide (p'.id = i) = false := decide_eq_false (fun e => hi e.symm)
        have e2 : decide (q.id = i) = false := decide_eq_false (fun e => hi (e.symm.trans h))
        rw [e1, e2]
        simp only [ih, if_neg hi]
    · rw [if_neg h]
      by_cases hq : q.id = i
      · have e2 : decide (q.id = i) = true := decide_eq_true hq
        rw [e2, if_neg (fun e => h (hq.trans e))]
      · have e2 : decide (q.id = i) = false := decide_eq_false hq
        rw [e2]
        exact ih
/-- The disk's files: what they hold. -/
structure FW2 (two : Bool) (fl : List FR) (na nb : List Int) (Z K : Nat) : Prop where
  at_ : ∀ b : Bool, (b = true → two = true) → ∃ f, fileAt fl (idOf b) = some f ∧ f.now = (if b then nb else na)
  all : ∀ f ∈ fl, f.now.length ≤ Z ∧ f.ops.length ≤ K
theorem FW2.kg {two : Bool} {fl : List FR} {na nb : List Int} {Z K : Nat} (h : FW2 two fl na nb Z K) (hZ : Z ≤ 1048576) (hK : K ≤ 500000) : KG (nwW two) fl := by
  refine ⟨fun p hp => ?_, fun f hf => ⟨Nat.le_trans (h.all f hf).1 hZ, Nat.le_trans (h.all f hf).2 hK⟩⟩
  have key : p.2 = idOf false ∨ (two = true ∧ p.2 = idOf true) := by
    cases two
    · rw [show nwW false = [(nmA, 0)] from rfl, List.mem_singleton] at hp
      exact .inl (by rw [hp]; rfl)
    · rw [show nwW true = [(nmA, 0), (nmB, 1)] from rfl] at hp
      rcases List.mem_cons.1 hp with rfl | hp
      · exact .inl rfl
      · rw [List.mem_singleton] at hp
        exact .inr ⟨rfl, by rw [hp]; rfl⟩
  rcases key with e | ⟨ht, e⟩
  · obtain ⟨f, hf, _⟩ := h.at_ false (fun h => by cases h)
    rw [e]
    exact ⟨by decide, by decide, f, hf⟩
  · obtain ⟨f, hf, _⟩ := h.at_ true (fun _ => ht)
    rw [e]
    exact ⟨by decide, by decide, f, hf⟩
theorem cnt_mono {a b : Int} (h : a ≤ b) : cnt a ≤ cnt b := by
  unfold cnt
  split
  · split
    · omega
    · omega
  · split
    · omega
    · omega
theorem FW2.len {two : Bool} {fl : List FR} {na nb : List Int} {Z K : Nat} (h : FW2 two fl na nb Z K) (i : Int) : cnt (lenA fl i) ≤ cnt (Z : Int) := by
  apply cnt_mono
  unfold lenA
  cases e : fileAt fl i with
  | none => simp
  | some f =>
    have := (h.all f (fileAt_mem e).1).1
    simp only [Option.map_some, Option.getD_some]
    omega
theorem FW2.has {two : Bool} {fl : List FR} {na nb : List Int} {Z K : Nat} {room : Int} (h : FW2 two fl na nb Z K) (hr : 3 * cnt (Z : Int) ≤ room) (len n : Nat) (hn : n ≤ Z) : hasF fl (nwW two) room (len : Int) (n : Int) = true := by
  have hc := cnt_mono (show (n : Int) ≤ (Z : Int) by omega)
  have hl : 0 ≤ cnt (len : Int) := by unfold cnt; split <;> omega
  have hu : usedF fl (nwW two) ≤ 2 * cnt (Z : Int) := by
    have h0 := h.len 0
    have h1 := h.len 1
    have hz : 0 ≤ cnt (Z : Int) := by unfold cnt; split <;> omega
    unfold usedF
    cases two
    · show 0 + cnt (lenA fl 0) ≤ _
      omega
    · show 0 + cnt (lenA fl 0) + cnt (lenA fl 1) ≤ _
      omega
  unfold hasF
  rw [Bool.or_eq_true]
  exact .inr (decide_eq_true (by omega))
/-- The disk in a state: its maps lie below B0. -/
def WD (W : World) (b g : Nat) (two : Bool) (na nb : List Int) (room : Int) (Z K B0 : Nat) : Prop :=
  ∃ gd mn ms vo N safe ops mf M fl next, DK W b (fun _ => True) g gd mn ms vo N (nwW two) safe ops mf M fl next room 0 false false ∧ FW2 two fl na nb Z K ∧ N ≤ 10 ∧ mf < B0 ∧ mn < B0 ∧ ms < B0
section
variable {W W1 : World} {b g : Nat} {two : Bool} {na nb : List Int} {room : Int} {Z K B0 : Nat}
theorem WD.below (h : WD W b g two na nb room Z K B0) (hb : Below W.heap.size W W1) : WD W1 b g two na nb room Z K B0 := by
  obtain ⟨gd, mn, ms, vo, N, safe, ops, mf, M, fl, next, h1, h2⟩ := h
  exact ⟨gd, mn, ms, vo, N, safe, ops, mf, M, fl, next, h1.below hb, h2⟩
theorem WD.kn {mp : Nat} (h : WD W b g two na nb room Z K B0) (hk : KN W W1 mp) (hm : B0 ≤ mp) : WD W1 b g two na nb room Z K B0 := by
  obtain ⟨gd, mn, ms, vo, N, safe, ops, mf, M, fl, next, h1, h2, h3, h4, h5, h6⟩ := h
  exact ⟨gd, mn, ms, vo, N, safe, ops, mf, M, fl, next, h1.kn hk (by omega) (by omega) (by omega), h2, h3, h4, h5, h6⟩
theorem WD.mono {K' : Nat} (h : WD W b g two na nb room Z K B0) (hK : K ≤ K') : WD W b g two na nb room Z K' B0 := by
  obtain ⟨gd, mn, ms, vo, N, safe, ops, mf, M, fl, next, h1, h2, h3⟩ := h
  exact ⟨gd, mn, ms, vo, N, safe, ops, mf, M, fl, next, h1, ⟨h2.at_, fun f hf => ⟨(h2.all f hf).1, Nat.le_trans (h2.all f hf).2 hK⟩⟩, h3⟩
/-- Another block is turned, of a type that is none of the disk's. -/
theorem WD.keepG {G : Nat} {cs : Array Value} {T : TypeId} (h : WD W b g two na nb room Z K B0) (hG : W.heap[G]? = some (.cells cs T (0, 0))) (hT : T = 103) (hk : KeepBut W W1 G none) : WD W1 b g two na nb room Z K B0 := by
  obtain ⟨gd, mn, ms, vo, N, safe, ops, mf, M, fl, next, h1, h2⟩ := h
  have hty : ∀ (k : Nat) (cs : Array Value) (T' : TypeId), T' ≠ 103 → W.heap[k]? = some (.cells cs T' (0, 0)) → W1.heap[k]? = W.heap[k]? := fun k cs T' h9 hkk => hk.2 k (blk_lt hkk) (blk_ne hkk hG (by rw [hT]; exact h9)) (by simp)
  have hne : ∀ {kt : TypeId} {m n : Nat} {f : Lit → Option Value}, MV W Try.prog kt m n f → W1.heap[m]? = W.heap[m]? := fun {kt m n f} hm => hk.2 m hm.lt (fun e => by
    obtain ⟨es, ck, ho⟩ := hm.obj
    rw [e, hG] at ho
    cases ho) (by simp)
  refine ⟨gd, mn, ms, vo, N, safe, ops, mf, M, fl, next, ⟨(hty g _ _ (by decide) h1.hb).trans h1.hb, h1.hd.move (hty gd _ _ (by decide) h1.hd.hb) (hne h1.hd.hn) (hne h1.hd.hs) (fun k _ ⟨cs, hc⟩ => hty k cs _ (by decide) hc), h1.hm.move (hne h1.hm), ⟨fun p hp => ?_, h1.hf.ap, fun k hkk => h1.hf.hy k (Nat.le_trans hk.1 hkk)⟩, h1.hg, h1.hmf, h1.n1, h1.n2⟩, h2⟩
  have hp1 := h1.hf.hf p hp
  exact hp1.move (hty p.g _ _ (by decide) hp1.hb) (fun k hx _ ⟨cs, T, hT', hc⟩ => ⟨hty k cs T (by rcases hT' with rfl | rfl <;> decide) hc, hx⟩)
theorem WD.size (h : WD W b g two na nb room Z K B0) : b ≤ W.heap.size := by
  obtain ⟨gd, mn, ms, vo, N, safe, ops, mf, M, fl, next, h1, h2⟩ := h
  exact Nat.le_trans h1.hg (Nat.le_of_lt (blk_lt h1.hb))
end
/-- A file read. -/
theorem wd_read {w : World} {b g : Nat} {two : Bool} {na nb : List Int} {room : Int} {Z K B0 : Nat} (h : WD w b g two na nb room Z K B0) (hZ : Z ≤ 1048576) (q : Bool) (hq : q = true → two = true) (k n : Int) :
    Calls Try.prog 70 #[.pointer (some ⟨g, 0, none⟩), .string (nmOf q), .int .i64 k, .int .i64 n] w fun e w' => ∃ v, e = .returned (.tuple #[v, .int .i64 0]) ∧ Kd.R (Kd.int .u8) 5 w' w.heap.size (fun _ => True) v (readL (if q then nb else na) k n) ∧ Below w.heap.size w w' := by
  obtain ⟨gd, mn, ms, vo, N, safe, ops, mf, M, fl, next, h1, h2, h3⟩ := h
  obtain ⟨f, hf, hn⟩ := h2.at_ q hq
  have := kread_own b _ g gd mn ms vo N (nwW two) safe ops mf M fl next room 0 false false w h1 (nmOf q) (nmOf_sz q) rfl (idOf q) (by cases q <;> decide) (by cases q <;> decide) f (nwW_get two q hq) hf (Nat.le_trans (h2.all f (fileAt_mem hf).1).1 hZ) k n
  rw [hn] at this
  exact this
theorem wd_tell {w : World} {b g : Nat} {two : Bool} {na nb : List Int} {room : Int} {Z K B0 mp : Nat} (h : WD w b g two na nb room Z K B0) (hZ : Z ≤ 1048576) (hm : B0 ≤ mp) (q : Bool) (hq : q = true → two = true) : Tell w g mp (nmOf q) (if q then nb else na) := fun W k hk h0 h1 => by
  have := wd_read (h.kn hk hm) hZ q hq (k * 256) 256
  rw [Int.mul_comm] at this
  rw [Int.mul_comm k 256]
  exact this
/-- A Write that finds room. -/
theorem wd_write {w : World} {b g : Nat} {two : Bool} {na nb : List Int} {room : Int} {Z K B0 : Nat} (h : WD w b g two na nb room Z K B0) (hZ : Z ≤ 100000) (hK : K ≤ 400000) (hr : 3 * cnt (Z : Int) ≤ room) (q : Bool) (hq : q = true → two = true) (k : Nat) (A : Option Addr) (c : Nat) (l : List Int) (hkl : k + l.length ≤ Z) (hlc : l.length ≤ c) (hst : ∀ W', Below b w W' → Kd.C (Kd.int .u8) W' A l.length l) :
    Calls Try.prog 68 #[.pointer (some ⟨g, 0, none⟩), .string (nmOf q), .int .i64 (k : Int), .slice A l.length c] w fun e w' => e = .returned (.int .i64 0) ∧ ∃ na' nb', WD w' b g two na' nb' room Z (K + 1 + l.length) B0 ∧ KM w w' ∧ Below b w w' := by
  obtain ⟨gd, mn, ms, vo, N, safe, ops, mf, M, fl, next, h1, h2, h3, h4⟩ := h
  obtain ⟨f, hf, hn⟩ := h2.at_ q hq
  have hfm := fileAt_mem hf
  have hz0 : 0 ≤ cnt (Z : Int) := by unfold cnt; split <;> omega
  refine (kwrite_kept b _ g gd mn ms vo N (nwW two) safe ops mf M fl next room 0 false false w h1 (Int.le_refl _) (by decide) rfl (nmOf q) (nmOf_sz q) (idOf q) (by cases q <;> decide) (by cases q <;> decide) f (nwW_get two q hq) hf (h2.kg (by omega) (by omega)) (nwW_ris two) (by omega) (by have := nwW_len two; omega) (nwW_sz two) (by omega) k A l.length c (by omega) (by omega) l rfl hlc hst (.inr (h2.has hr f.now.length (k + l.length) hkl))).mono ?_
  rintro e w' ⟨rfl, ⟨vn', vo', hd⟩, hk, hb⟩
  have hid : f.id = idOf q := hfm.2
  obtain ⟨w1, w2⟩ := writeF_bd f.now f.ops k l
  have hff := h2.all f hfm.1
  refine ⟨rfl, (if q then na else (writeF (f.now, f.ops) k l).1), (if q then (writeF (f.now, f.ops) k l).1 else nb), ⟨gd, mn, ms, vo, N, safe, ops, mf, M, _, next, hd, ⟨fun b' hb' => ?_, fun f' hf' => ?_⟩, h3, h4⟩, hk, hb⟩
  · rw [fileAt_setFile]
    by_cases e : b' = q
    · subst e
      refine ⟨_, by rw [if_pos hid.symm, hf]; rfl, ?_⟩
      cases b' <;> rfl
    · have hne : ¬ idOf b' = f.id := by rw [hid]; cases b' <;> cases q <;> first | exact absurd rfl e | decide
      obtain ⟨f2, hf2, hn2⟩ := h2.at_ b' hb'
      refine ⟨f2, by rw [if_neg hne]; exact hf2, ?_⟩
      rw [hn2]
      cases b' <;> cases q <;> first | exact absurd rfl e | rfl
  · rcases mem_set hf' with rfl | ⟨hm, _⟩
    · exact ⟨by show (writeF (f.now, f.ops) k l).1.length ≤ Z; omega, by show (writeF (f.now, f.ops) k l).2.length ≤ _; omega⟩
    · exact ⟨(h2.all f' hm).1, by have := (h2.all f' hm).2; omega⟩
end Go.Proofs.Ytpnbjpkdbiiogaa
/- The code's directory: Crash. -/
namespace Go.Proofs.Ytpnbjpkdbiiogaa
set_option linter.unusedVariables false
open Go.RowKit Go.Maps Go.Sort Go.Proofs.YtpnbjpkdbiiogaaW.PrintWords
attribute [local go_sem] mx2 mn2 mxTwo mnTwo

theorem dcrash_nil (A : Option Addr) (n c : Nat) (w : World) : Calls Try.prog 48 #[.pointer none, .slice A n c] w fun e w' => e = .returned (.pointer none) ∧ w = w' := by
  go_enter Try.func48, Try.ntmps48
  go_wp2
  go_ret
  exact ⟨rfl, rfl⟩
theorem invS : ∀ key kl, keyOf Try.prog 9 key = some kl → ∃ x : ByteArray, key = Value.string x := by
  intro key kl h
  obtain ⟨x, hx, _, _⟩ := Maps.keyOf_str Try.underlying9 h
  exact ⟨⟨x.toArray⟩, hx⟩
/-- What holds while the safe names are laid into the new directory. -/
structure CD (w : World) (g2 m2 r ms N : Nat) (vs vo : Value) (safe : List DN) (wr : World) (left : Lit → Bool) (cnt : Nat) (fo : Lit → Option Value) : Prop where
  rg : MR wr Try.prog 9 ms r N (mapF safe) left cnt
  mv : MV wr Try.prog 9 m2 (N - cnt) fo
  c : cnt ≤ N
  fo : ∀ q, fo q = if left q = true then none else mapF safe q
  hb : wr.heap[g2]? = some (.cells #[.map (some m2), vs, vo] 88 (0, 0))
  l : Below w.heap.size w wr
  hg : w.heap.size ≤ g2
  hm : w.heap.size ≤ m2
  hr : w.heap.size ≤ r
  hs : ms < w.heap.size
  rm : r ≠ m2
  gr : g2 ≠ r
theorem CD.step {w wr w1 w2 : World} {g2 m2 r ms N cnt cnt1 : Nat} {vs vo : Value} {safe : List DN} {left : Lit → Bool} {fo : Lit → Option Value} {kl : Lit} {v : Value} (h : CD w g2 m2 r ms N vs vo safe wr left cnt fo) (hk : WideAt.IsKeyLit kl) (hf : mapF safe kl = some v) (hr1 : MR w1 Try.prog 9 ms r N (mapF safe) (fun z => left z && !z.sameKey kl) cnt1) (hlt : cnt1 < cnt) (hg1 : wr.grownBy w1 (some r)) (hm2 : MV w2 Try.prog 9 m2 (N - cnt + 1) (upd fo kl (some v))) (ht : w1.mapTurned w2 m2) :
    CD w g2 m2 r ms N vs vo safe w2 (fun z => left z && !z.sameKey kl) cnt1 (upd fo kl (some v)) := by
  have hc := h.c
  have hs := h.hs
  have hm := h.hm
  refine ⟨hr1.kept ht.grown (fun e => by injection e; omega) (fun e => h.rm (by injection e)), hm2.mono (by omega), by omega, fun q => ?_, ?_, ?_, h.hg, h.hm, h.hr, h.hs, h.rm, h.gr⟩
  · by_cases e : q = kl
    · subst e
      rw [upd_same, WideAt.sameKey_self hk, hf]
      simp
    · rw [upd_other _ _ e, h.fo q]
      have : q.sameKey kl = false := sameKey_ne e
      rw [this]
      simp
  · have hb1 := blk_grown h.hb hg1 (fun e => h.gr (by injection e))
    exact blk_grown hb1 ht.grown (fun e => by
      have := h.mv.ne h.hb
      injection e with e
      exact this e.symm)
  · have h1 : Below w.heap.size w w1 := h.l.grown hg1 h.l.size (fun j hj => by cases hj; exact h.hr)
    exact h1.grown ht.grown h1.size (fun j hj => by cases hj; exact h.hm)
set_option maxHeartbeats 1000000 in
set_option maxRecDepth 100000 in
theorem dcrash_any (b g mn ms N : Nat) (vo : Value) (now safe : List DN) (ops : List DOp) (A : Option Addr) (n c : Nat) (kl : List Bool) (w : World) (h : DI w b g mn ms vo N now safe ops) (hk : Kd.bool.C w A n kl) (hN : N ≤ 100000) (hlo : ops.length ≤ 100000) (hop : ∀ o ∈ ops, o.a.size ≤ maxLen ∧ o.b.size ≤ maxLen) :
    Calls Try.prog 48 #[.pointer (some ⟨g, 0, none⟩), .slice A n c] w fun e w' => ∃ g2 m2 m3, e = .returned (.pointer (some ⟨g2, 0, none⟩)) ∧ w.heap.size ≤ g2 ∧ w.heap.size ≤ m2 ∧ w.heap.size ≤ m3 ∧ DI w' b g2 m2 m3 (.slice none 0 0) (N + ops.length) (crashD safe ops kl ops.length) (crashD safe ops kl ops.length) [] ∧ Below w.heap.size w w' := by
  obtain rfl : kl.length = n := hk.1
  have hkm := Kd.C_max hk
  have hbw : b ≤ w.heap.size := Nat.le_trans h.hg (Nat.le_of_lt (blk_lt h.hb))
  obtain ⟨A2, c2, rfl, _, hC2⟩ := Kd.R_reads h.ho
  have hc1 := (blk_cell h.hb 1).trans (rfl : _ = some (Value.map (some ms)))
  have hc2 := (blk_cell h.hb 2).trans (rfl : _ = some (Value.slice A2 ops.length c2))
  have HS1 := Aside0.mk hc1
  have HS2 := Aside0.mk hc2
  have HMS := Aside0.mk h.hs
  have HK := Aside0.mk hk
  have HC2 := Aside0.mk hC2
  have HOP := Aside0.mk hop
  have hmsl := h.hs.lt
  clear h hk hC2 hc1 hc2 hop
  go_enter Try.func48, Try.ntmps48
  go_wp2_with (first
    | (go_at_call 43; refine (dnew_any b w hbw).mono ?_; rintro e w1 ⟨g2, m2, m3, rfl, hg2, hm2, hm3, hd, hb⟩; have s1 := pw_cell_below hb HS1.out; have HM := Aside0.mk (HMS.out.below hb); have HD := Aside0.mk hd; have HB := Aside0.mk hb; clear hd hb)
    | (at_range; refine mv_range rfl _ 85 rfl 9 3 lawS Try.underlying85 ms N (mapF safe) rfl HM.out ?_; intro w2 cnt hcnt hrg hg0 hs0))
  go_frame
  have hd2 := HD.out.below (W1 := w2) ⟨hg0.os, hg0.tape, hg0.output, hg0.size, fun i hi => hg0.block i hi (by simp)⟩
  have hrw : w.heap.size ≤ w1.heap.size := HB.out.size
  obtain ⟨r, hr⟩ : ∃ r, r = w1.heap.size := ⟨_, rfl⟩
  rw [← hr] at hrg hrw hs0 ⊢
  have HCD := Aside0.mk (CD.mk (w := w) (g2 := g2) (m2 := m2) (r := r) (ms := ms) (N := N) (vs := .map (some m3)) (vo := .slice none 0 0) (safe := safe) hrg (hd2.hn.mono (Nat.zero_le _)) hcnt (fun q => by rw [mapF_nil]; cases mapF safe q <;> simp) hd2.hb (HB.out.trans (Below.mono (B := w1.heap.size) ⟨hg0.os, hg0.tape, hg0.output, hg0.size, fun i hi => hg0.block i hi (by simp)⟩ (by omega))) hg2 hm2 hrw hmsl (fun e => by have := HD.out.hn.lt; omega) (fun e => by have := blk_lt HD.out.hb; omega))
  clear hd2 hrg hg0 hs0 HD HM hcnt HB s1 hr hrw
  go_loopg [6] cnt (fun q v6 wr => ∃ (left : Lit → Bool) (cnt : Nat) (fo : Lit → Option Value), Aside0 (q = cnt) ∧ Aside0 (CD w g2 m2 r ms N (.map (some m3)) (.slice none 0 0) safe wr left cnt fo))
  case atStart => exact ⟨_, cnt, _, ⟨rfl⟩, HCD⟩
  case round =>
    clear HCD
    obtain ⟨left, cnt, fo, hq, HC⟩ := hrel
    go_wp2_with (at_next; refine mv_next rfl _ rfl 9 lawS Value.string invS ms r N (mapF safe) left cnt rfl HC.out.rg ?_ ?_)
    · intro hl0
      have hmv0 : MV wr Try.prog 9 m2 N (mapF safe) := (HC.out.mv.mono (Nat.sub_le _ _)).congr (fun q => by rw [HC.out.fo q, hl0 q]; simp)
      have hcell2 := pw_cell_below HC.out.l HS2.out
      have HM0 := Aside0.mk hmv0
      have HB0 := Aside0.mk HC.out.hb
      have HL0 := Aside0.mk HC.out.l
      have hg2w := HC.out.hg
      have hm2w := HC.out.hm
      clear hmv0 hl0 HC
      go_wp2_with fail
      obtain ⟨wo, rfl⟩ : ∃ wo : World, wo = wr := ⟨_, rfl⟩
      go_loopg [34] ops.length (fun q2 v34 wr2 => ∃ i : Nat, v34 = .int .i64 (i : Int) ∧ i ≤ ops.length ∧ Aside0 (q2 = ops.length - i) ∧ Aside0 (MV wr2 Try.prog 9 m2 (N + i) (mapF (crashD safe ops kl i))) ∧ Aside0 (wr2.heap[g2]? = some (.cells #[.map (some m2), .map (some m3), .slice none 0 0] 88 (0, 0))) ∧ Aside0 (Below w.heap.size w wr2))
      case atStart => exact ⟨0, rfl, Nat.zero_le _, ⟨rfl⟩, HM0, HB0, HL0⟩
      case round =>
        clear HM0 HB0 HL0 hcell2
        obtain ⟨i, rfl, hi, hq2, HM0, HB0, HL0⟩ := hrel
        by_cases hlt : i < ops.length
        · obtain ⟨ad, e1, r1, r2, r3, r4⟩ := at_Dop (Kd.C_below HC2.out HL0.out) i hlt
          subst e1
          obtain ⟨o, ho⟩ : ∃ o, o = ops.getD i zDop := ⟨_, rfl⟩
          have hoo := HOP.out o (by rw [ho]; simp [List.getD_eq_getElem?_getD, hlt])
          have HSTEP := Aside0.mk (show crashD safe ops kl (i + 1) = if kl.getD i false = true then didL (crashD safe ops kl i) ⟨o.kd, o.a, o.b, o.id⟩ else crashD safe ops kl i by rw [ho]; rfl)
          rw [← ho] at r1 r2 r3 r4
          have HOO := Aside0.mk hoo
          clear ho hoo
          by_cases hkl : i < kl.length
          · obtain ⟨ad2, e2, hkb0⟩ := at_bool HK.out i hkl
            subst e2
            have hkb := cell_al (.cells #[.int .i64 o.kd, .string o.a, .string o.b, .int .i64 o.id] 149) (pw_cell_below HL0.out hkb0)
            clear hkb0
            cases hb : kl.getD i false with
            | false =>
              rw [hb] at hkb HSTEP
              clear hb
              go_wp2_with fail
              go_roundg (ops.length - (i + 1))
              case measure => have := hq2.out; omega
              case rel => exact ⟨i + 1, by go_num, by omega, ⟨rfl⟩, ⟨by rw [HSTEP.out]; exact (HM0.out.below (below_alloc (Below.refl _ _) _)).mono (by omega)⟩, ⟨blk_alloc HB0.out _⟩, ⟨below_alloc HL0.out _⟩⟩
            | true =>
              rw [hb] at hkb HSTEP
              clear hb
              rw [if_pos rfl] at HSTEP
              go_wp2_with fail
              obtain ⟨W1, hW1⟩ : ∃ W1, W1 = wr.alloc (.cells #[.int .i64 o.kd, .string o.a, .string o.b, .int .i64 o.id] 149) := ⟨_, rfl⟩
              have hnb : W1.heap[wr.heap.size]? = some (.cells #[.int .i64 o.kd, .string o.a, .string o.b, .int .i64 o.id] 149 (0, 0)) := by rw [hW1]; exact blk_new _ _
              have hb1 : Below wr.heap.size wr W1 := by rw [hW1]; exact below_alloc (Below.refl _ _) _
              rw [← hW1]
              obtain ⟨p3, hp3⟩ : ∃ p3, p3 = wr.heap.size := ⟨_, rfl⟩
              rw [← hp3] at hnb ⊢
              have t0 := (blk_cell hnb 0).trans (rfl : _ = some (Value.int .i64 o.kd))
              have t1 := (blk_cell hnb 1).trans (rfl : _ = some (Value.string o.a))
              have t2 := (blk_cell hnb 2).trans (rfl : _ = some (Value.string o.b))
              have t3 := (blk_cell hnb 3).trans (rfl : _ = some (Value.int .i64 o.id))
              have hgb := blk_below HB0.out hb1
              have s0 := (blk_cell hgb 0).trans (rfl : _ = some (Value.map (some m2)))
              have HMW := Aside0.mk (HM0.out.below hb1)
              have hmp : p3 ≠ m2 := fun e => HMW.out.ne hnb e.symm
              have hgm : g2 ≠ m2 := fun e => HMW.out.ne hgb e.symm
              have HB1 := Aside0.mk (below_step HL0.out hb1)
              have HGB := Aside0.mk hgb
              have HNB := Aside0.mk hnb
              clear hnb hb1 hp3 hW1 hgb hkb r1 r2 r3 r4
              go_region_held3 (fun w' => w'.cell? ⟨g2, 0, none⟩ = some (.map (some m2)) ∧ w'.cell? ⟨p3, 0, none⟩ = some (.int .i64 o.kd) ∧ w'.cell? ⟨p3, 1, none⟩ = some (.string o.a) ∧ w'.cell? ⟨p3, 2, none⟩ = some (.string o.b) ∧ w'.cell? ⟨p3, 3, none⟩ = some (.int .i64 o.id)) (first | with_reducible exact ⟨s0, t0, t1, t2, t3⟩ | exact ⟨s0, t0, t1, t2, t3⟩) (first
                | (go_at_call 98; refine (ddo_any m2 (N + i) (crashD safe ops kl i) o.kd o.a o.b o.id _ (MV.drew HMW.out) (by omega) HOO.out.1 HOO.out.2).mono ?_; rintro e w5 ⟨rfl, hm5, ht5⟩; have hg5 := (ht5.k.2 g2 (blk_lt (blk_drew HGB.out)) hgm (by simp)).trans (blk_drew HGB.out); have hn5 := (ht5.k.2 p3 (blk_lt (blk_drew HNB.out)) hmp (by simp)).trans (blk_drew HNB.out); replace s0 := (blk_cell hg5 0).trans (rfl : _ = some (Value.map (some m2))); replace t0 := (blk_cell hn5 0).trans (rfl : _ = some (Value.int .i64 o.kd)); replace t1 := (blk_cell hn5 1).trans (rfl : _ = some (Value.string o.a)); replace t2 := (blk_cell hn5 2).trans (rfl : _ = some (Value.string o.b)); replace t3 := (blk_cell hn5 3).trans (rfl : _ = some (Value.int .i64 o.id)); have HM5 := Aside0.mk hm5; have HG5 := Aside0.mk hg5; have HL5 := Aside0.mk (((HB1.out).trans (below_drew1 (Below.refl _ _))).trans (ht5.l w.heap.size hm2w HB1.out.size)); clear hm5 ht5 hg5 hn5))
              all_goals
                first | go_end0 | skip
                go_wp2_with fail
                go_roundg (ops.length - (i + 1))
                case measure => have := hq2.out; omega
                case rel => exact ⟨i + 1, by go_num, by omega, ⟨rfl⟩, ⟨by rw [HSTEP.out]; exact HM5.out.mono (by omega)⟩, HG5, HL5⟩
          · have hb : kl.getD i false = false := by simp [List.getD_eq_getElem?_getD, List.getElem?_eq_none (Nat.le_of_not_lt hkl)]
            rw [hb] at HSTEP
            clear hb
            go_wp2_with fail
            go_roundg (ops.length - (i + 1))
            case measure => have := hq2.out; omega
            case rel => exact ⟨i + 1, by go_num, by omega, ⟨rfl⟩, ⟨by rw [HSTEP.out]; exact (HM0.out.below (below_alloc (Below.refl _ _) _)).mono (by omega)⟩, ⟨blk_alloc HB0.out _⟩, ⟨below_alloc HL0.out _⟩⟩
        · obtain rfl : i = ops.length := by omega
          have s0 := (blk_cell HB0.out 0).trans (rfl : _ = some (Value.map (some m2)))
          go_wp2_with (go_at_call 97; refine (mclone_any m2 (N + ops.length) (mapF (crashD safe ops kl ops.length)) _ HM0.out).mono ?_; rintro e w7 ⟨rfl, hv, hb1⟩; have hbk := blk_below HB0.out hb1; have k1 := (blk_cell hbk 1).trans (rfl : _ = some (Value.map (some m3))); have f1 := blk_frozen hbk 1; have HV := Aside0.mk hv; have HB := Aside0.mk hb1; have HKK := Aside0.mk hbk; clear hv hb1 hbk)
          go_ret
          have hm0 := HM0.out.below HB.out
          have hlt7 := HM0.out.lt
          refine ⟨_, _, _, rfl, hg2w, hm2w, ?_, ⟨blk_put HKK.out 1 _ rfl, hm0.setCell (hm0.ne HKK.out) _, HV.out.setCell (HV.out.ne HKK.out) _, Kd.R_nil _ _ _ _ _, Nat.le_trans hbw hg2w, Nat.le_trans hbw hm2w, ?_, by omega⟩, (below_step HL0.out HB.out).setCell (p := ⟨g2, 1, none⟩) hg2w _⟩
          · exact HL0.out.size
          · exact Nat.le_trans hbw HL0.out.size
    · intro x v kq w3 cnt3 hkq hlk hfv hrg3 hlt3 hg3 hs3 hen
      have hb3 := blk_grown HC.out.hb hg3 (fun e => HC.out.gr (by injection e))
      have t0 := (blk_cell hb3 0).trans (rfl : _ = some (Value.map (some m2)))
      have HMV := Aside0.mk (HC.out.mv.move (hg3.block m2 HC.out.mv.lt (fun e => HC.out.rm (by injection e with e; exact e.symm))))
      have hcN := HC.out.c
      have HKQ := Aside0.mk hkq
      have HFV := Aside0.mk hfv
      have HR3 := Aside0.mk hrg3
      have HG3 := Aside0.mk hg3
      clear hkq hfv hrg3 hg3 hb3 hlk
      go_wp2_with (at_mapUpdate; refine mv_store rfl _ _ _ 85 rfl 9 3 lawS Try.underlying85 m2 (N - cnt) fo rfl HMV.out (by unfold maxLen; omega) _ _ kq rfl rfl HKQ.out ?_; intro w4 hm4 ht4; have HC4 := Aside0.mk (HC.out.step (key_lit HKQ.out) HFV.out HR3.out hlt3 HG3.out hm4 ht4); clear hm4 ht4)
      go_roundg cnt3
      case measure => have := hq.out; omega
      case rel => exact ⟨_, cnt3, _, ⟨rfl⟩, HC4⟩
end Go.Proofs.Ytpnbjpkdbiiogaa
/- An argument's reading opened to a description of memory: whole numbers, strings, slices, structs of one-cell fields, nested as wanted. -/
namespace Go.Proofs.Ytpnbjpkdbiiogaa
set_option linter.unusedVariables false
open Go.RowKit Go.ChangeShapes Go.WideShapes Go.Deep Go.Proofs.YtpnbjpkdbiiogaaW.PrintWords

/-- Whatever a reading takes at type t is described by d, and is good. -/
def Opens {α : Type} (P : Program) (t : TypeId) (d : Kd α) (good : α → Prop) : Prop :=
  ∀ (H : Type) (enc : TypeId × Value → H) (w : World) (base : Nat) (spare : Nat → Bool) (held : Bool) (fuel : Nat) (cs : List Value) (x : DataW H × List MemPlace), DataW.trod enc P w base spare held fuel t cs = some x → ∃ p, d.K w p cs ∧ good p
theorem opens_int {P : Program} {t : TypeId} {k : IntKind} (ht : P.underlying t = some (.int k)) : Opens P t (Kd.int k) (fun n => (Lit.int k n).wf = true) := by
  intro H enc w base spare held fuel cs x h
  obtain ⟨n, rfl, _, hw⟩ := DataW.trod_int ht h
  exact ⟨n, rfl, hw⟩
theorem opens_string {P : Program} {t : TypeId} (ht : P.underlying t = some .string) : Opens P t Kd.string (fun s => s.size ≤ maxLen) := by
  intro H enc w base spare held fuel cs x h
  obtain ⟨s, rfl, _, hs⟩ := DataW.trod_string ht h
  exact ⟨s, rfl, hs⟩
theorem opens_bool {P : Program} {t : TypeId} (ht : P.underlying t = some .bool) : Opens P t Kd.bool (fun _ => True) := by
  intro H enc w base spare held fuel cs x h
  obtain ⟨b, rfl, _⟩ := DataW.trod_bool ht h
  exact ⟨b, rfl, trivial⟩
theorem list_of {α : Type} {p : Nat → α → Prop} : ∀ (n : Nat), (∀ i, i < n → ∃ x, p i x) → ∃ xs : List α, xs.length = n ∧ ∀ i x, xs[i]? = some x → p i x
  | 0, _ => ⟨[], rfl, fun i x h => by simp at h⟩
  | n + 1, h => by
    obtain ⟨xs, hl, hx⟩ := list_of n (fun i hi => h i (by omega))
    obtain ⟨y, hy⟩ := h n (by omega)
    refine ⟨xs ++ [y], by simp [hl], fun i x hi => ?_⟩
    by_cases hlt : i < n
    · rw [List.getElem?_append_left (by omega)] at hi
      exact hx i x hi
    · have h2 := (List.getElem?_eq_some_iff.1 hi).1
      rw [List.length_append, List.length_singleton] at h2
      obtain rfl : i = n := by omega
      rw [← hl, List.getElem?_concat_length] at hi
      cases hi
      exact hy
theorem opens_slice {α : Type} {d : Kd α} {good : α → Prop} {P : Program} {t e : TypeId} (ht : P.underlying t = some (.slice e)) (hC : P.cellsOf e = d.sz) (hd : Opens P e d good) : Opens P t (Kd.slice e d) (fun xs => ∀ x ∈ xs, good x) := by
  intro H enc w base spare held fuel cs x h
  rcases open_slice ht h with ⟨rfl, _⟩ | ⟨a, len, cap, m, n, D, Pl, rfl, hb, hl, hm, hmm, _, hi⟩
  · exact ⟨[], ⟨none, 0, rfl, Nat.le_refl _, rfl, Nat.zero_le _, fun h0 => absurd h0 (Nat.lt_irrefl _)⟩, fun x hx => by simp at hx⟩
  · have hlm : len ≤ m := by rw [hmm]; split <;> omega
    obtain ⟨xs, hxl, hx⟩ := list_of (p := fun i x => (∃ c, c.length = d.sz ∧ d.K w x c ∧ ∀ j u, c[j]? = some u → w.cell? (a.add (i * d.sz + j)) = some u) ∧ good x) len (fun i hil => by
      obtain ⟨cs', hc, ht'⟩ := hi i (by omega)
      obtain ⟨p, hK, hg⟩ := hd H enc w base spare held n cs' _ ht'
      obtain ⟨_, hcl, hat⟩ := World.cells?_some hc
      refine ⟨p, ⟨cs', by rw [hcl, hC], hK, fun j u hj => ?_⟩, hg⟩
      have hjl := (List.getElem?_eq_some_iff.1 hj).1
      have := hat j (by omega)
      rw [hC, Go.Deep.add_add] at this
      exact this.trans hj)
    unfold maxLen at hm
    refine ⟨xs, ⟨some a, cap, by rw [hxl], by omega, rfl, by omega, fun _ => ⟨a, rfl, fun j p hp => (hx j p hp).1⟩⟩, fun x hxm => ?_⟩
    obtain ⟨i, hil, rfl⟩ := List.getElem_of_mem hxm
    exact (hx i _ (List.getElem?_eq_getElem hil)).2
theorem fields_open {P : Program} {t : TypeId} {fs : Array Field} (ht : P.underlying t = some (.struct fs)) (hone : oneCellFields P fs = true) (hC : P.cellsOf t = fs.size) {H : Type} {enc : TypeId × Value → H} {w : World} {base : Nat} {spare : Nat → Bool} {held : Bool} {fuel : Nat} {cs : List Value} {x : DataW H × List MemPlace} (h : DataW.trod enc P w base spare held fuel t cs = some x) :
    cs.length = fs.size ∧ ∀ (j : Nat) (f : Field), fs[j]? = some f → ∃ (c : Value) (y : DataW H × List MemPlace) (n : Nat), cs[j]? = some c ∧ DataW.trod enc P w base spare held n f.type [c] = some y := by
  obtain ⟨ys, n', hn', hy, hlen, hyl, hf⟩ := DataW.trod_struct ht h
  rw [hC] at hlen
  refine ⟨hlen, fun j f hj => ?_⟩
  obtain ⟨ho, hk⟩ := hone_of hone j f hj
  have hjl : j < fs.size := (Array.getElem?_eq_some_iff.1 hj).1
  have h1 := hf j f hj
  rw [ho, hk] at h1
  have hone' : (cs.drop j).take 1 = [cs[j]'(by omega)] := by
    rw [List.drop_eq_getElem_cons (by omega)]
    rfl
  rw [hone'] at h1
  have hys : ys[j]? = some (ys[j]'(by omega)) := List.getElem?_eq_getElem (by omega)
  exact ⟨_, _, n', List.getElem?_eq_getElem (by omega), h1.trans hys⟩
theorem opens_struct2 {α β : Type} {a : Kd α} {b : Kd β} {ga : α → Prop} {gb : β → Prop} {P : Program} {t : TypeId} {f0 f1 : Field} (ht : P.underlying t = some (.struct #[f0, f1])) (hone : oneCellFields P #[f0, f1] = true) (hC : P.cellsOf t = 2) (h0 : Opens P f0.type a ga) (h1 : Opens P f1.type b gb) :
    Opens P t (Kd.pair a b) (fun x => ga x.1 ∧ gb x.2) := by
  intro H enc w base spare held fuel cs x h
  obtain ⟨hl, hf⟩ := fields_open ht hone hC h
  match cs, hl with
  | [c0, c1], _ =>
    obtain ⟨_, y0, n0, e0, t0⟩ := hf 0 f0 rfl
    obtain ⟨_, y1, n1, e1, t1⟩ := hf 1 f1 rfl
    cases e0; cases e1
    obtain ⟨p0, k0, g0⟩ := h0 H enc w base spare held _ _ _ t0
    obtain ⟨p1, k1, g1⟩ := h1 H enc w base spare held _ _ _ t1
    exact ⟨(p0, p1), ⟨[c0], [c1], rfl, k0, k1⟩, g0, g1⟩
theorem opens_struct3 {α β γ : Type} {a : Kd α} {b : Kd β} {c : Kd γ} {ga : α → Prop} {gb : β → Prop} {gc : γ → Prop} {P : Program} {t : TypeId} {f0 f1 f2 : Field} (ht : P.underlying t = some (.struct #[f0, f1, f2])) (hone : oneCellFields P #[f0, f1, f2] = true) (hC : P.cellsOf t = 3) (h0 : Opens P f0.type a ga) (h1 : Opens P f1.type b gb) (h2 : Opens P f2.type c gc) :
    Opens P t (Kd.pair a (Kd.pair b c)) (fun x => ga x.1 ∧ gb x.2.1 ∧ gc x.2.2) := by
  intro H enc w base spare held fuel cs x h
  obtain ⟨hl, hf⟩ := fields_open ht hone hC h
  match cs, hl with
  | [c0, c1, c2], _ =>
    obtain ⟨_, y0, n0, e0, t0⟩ := hf 0 f0 rfl
    obtain ⟨_, y1, n1, e1, t1⟩ := hf 1 f1 rfl
    obtain ⟨_, y2, n2, e2, t2⟩ := hf 2 f2 rfl
    cases e0; cases e1; cases e2
    obtain ⟨p0, k0, g0⟩ := h0 H enc w base spare held _ _ _ t0
    obtain ⟨p1, k1, g1⟩ := h1 H enc w base spare held _ _ _ t1
    obtain ⟨p2, k2, g2⟩ := h2 H enc w base spare held _ _ _ t2
    exact ⟨(p0, p1, p2), ⟨[c0], [c1, c2], rfl, k0, ⟨[c1], [c2], rfl, k1, k2⟩⟩, g0, g1, g2⟩
theorem opens_struct4 {α β γ δ : Type} {a : Kd α} {b : Kd β} {c : Kd γ} {d : Kd δ} {ga : α → Prop} {gb : β → Prop} {gc : γ → Prop} {gd : δ → Prop} {P : Program} {t : TypeId} {f0 f1 f2 f3 : Field} (ht : P.underlying t = some (.struct #[f0, f1, f2, f3])) (hone : oneCellFields P #[f0, f1, f2, f3] = true) (hC : P.cellsOf t = 4) (h0 : Opens P f0.type a ga) (h1 : Opens P f1.type b gb) (h2 : Opens P f2.type c gc) (h3 : Opens P f3.type d gd) :
    Opens P t (Kd.pair a (Kd.pair b (Kd.pair c d))) (fun x => ga x.1 ∧ gb x.2.1 ∧ gc x.2.2.1 ∧ gd x.2.2.2) := by
  intro H enc w base spare held fuel cs x h
  obtain ⟨hl, hf⟩ := fields_open ht hone hC h
  match cs, hl with
  | [c0, c1, c2, c3], _ =>
    obtain ⟨_, y0, n0, e0, t0⟩ := hf 0 f0 rfl
    obtain ⟨_, y1, n1, e1, t1⟩ := hf 1 f1 rfl
    obtain ⟨_, y2, n2, e2, t2⟩ := hf 2 f2 rfl
    obtain ⟨_, y3, n3, e3, t3⟩ := hf 3 f3 rfl
    cases e0; cases e1; cases e2; cases e3
    obtain ⟨p0, k0, g0⟩ := h0 H enc w base spare held _ _ _ t0
    obtain ⟨p1, k1, g1⟩ := h1 H enc w base spare held _ _ _ t1
    obtain ⟨p2, k2, g2⟩ := h2 H enc w base spare held _ _ _ t2
    obtain ⟨p3, k3, g3⟩ := h3 H enc w base spare held _ _ _ t3
    exact ⟨(p0, p1, p2, p3), ⟨[c0], [c1, c2, c3], rfl, k0, ⟨[c1], [c2, c3], rfl, k1, ⟨[c2], [c3], rfl, k2, k3⟩⟩⟩, g0, g1, g2, g3⟩
theorem opens_struct5 {α β γ δ ε : Type} {a : Kd α} {b : Kd β} {c : Kd γ} {d : Kd δ} {e : Kd ε} {ga : α → Prop} {gb : β → Prop} {gc : γ → Prop} {gd : δ → Prop} {ge : ε → Prop} {P : Program} {t : TypeId} {f0 f1 f2 f3 f4 : Field} (ht : P.underlying t = some (.struct #[f0, f1, f2, f3, f4])) (hone : oneCellFields P #[f0, f1, f2, f3, f4] = true) (hC : P.cellsOf t = 5) (h0 : Opens P f0.type a ga) (h1 : Opens P f1.type b gb) (h2 : Opens P f2.type c gc) (h3 : Opens P f3.type d gd) (h4 : Opens P f4.type e ge) :
    Opens P t (Kd.pair a (Kd.pair b (Kd.pair c (Kd.pair d e)))) (fun x => ga x.1 ∧ gb x.2.1 ∧ gc x.2.2.1 ∧ gd x.2.2.2.1 ∧ ge x.2.2.2.2) := by
  intro H enc w base spare held fuel cs x h
  obtain ⟨hl, hf⟩ := fields_open ht hone hC h
  match cs, hl with
  | [c0, c1, c2, c3, c4], _ =>
    obtain ⟨_, y0, n0, e0, t0⟩ := hf 0 f0 rfl
    obtain ⟨_, y1, n1, e1, t1⟩ := hf 1 f1 rfl
    obtain ⟨_, y2, n2, e2, t2⟩ := hf 2 f2 rfl
    obtain ⟨_, y3, n3, e3, t3⟩ := hf 3 f3 rfl
    obtain ⟨_, y4, n4, e4, t4⟩ := hf 4 f4 rfl
    cases e0; cases e1; cases e2; cases e3; cases e4
    obtain ⟨p0, k0, g0⟩ := h0 H enc w base spare held _ _ _ t0
    obtain ⟨p1, k1, g1⟩ := h1 H enc w base spare held _ _ _ t1
    obtain ⟨p2, k2, g2⟩ := h2 H enc w base spare held _ _ _ t2
    obtain ⟨p3, k3, g3⟩ := h3 H enc w base spare held _ _ _ t3
    obtain ⟨p4, k4, g4⟩ := h4 H enc w base spare held _ _ _ t4
    exact ⟨(p0, p1, p2, p3, p4), ⟨[c0], [c1, c2, c3, c4], rfl, k0, ⟨[c1], [c2, c3, c4], rfl, k1, ⟨[c2], [c3, c4], rfl, k2, ⟨[c3], [c4], rfl, k3, k4⟩⟩⟩⟩, g0, g1, g2, g3, g4⟩
theorem opens_iso {α β : Type} {d : Kd α} {good : α → Prop} {P : Program} {t : TypeId} (f : β → α) (g : α → β) (hfg : ∀ a, f (g a) = a) (h : Opens P t d good) : Opens P t (Kd.iso d f) (fun x => good (f x)) := by
  intro H enc w base spare held fuel cs x hx
  obtain ⟨p, hK, hg⟩ := h H enc w base spare held fuel cs x hx
  exact ⟨g p, by show d.K w (f (g p)) cs; rw [hfg]; exact hK, by show good (f (g p)); rw [hfg]; exact hg⟩
/-- A slice argument, opened. -/
theorem open_arg {α : Type} {d : Kd α} {good : α → Prop} {P : Program} {t e : TypeId} (ho : Opens P t (Kd.slice e d) (fun xs => ∀ x ∈ xs, good x)) {H : Type} {enc : TypeId × Value → H} {w : World} {base : Nat} {spare : Nat → Bool} {held : Bool} {a : Option Addr} {len cap : Nat} {dd : DataW H} {ps : List MemPlace} (h : DataW.Trod enc P w base spare held t (.slice a len cap) dd ps) :
    ∃ xs : List α, xs.length = len ∧ len ≤ cap ∧ Kd.C d w a xs.length xs ∧ ∀ x ∈ xs, good x := by
  obtain ⟨fuel, hf⟩ := h
  obtain ⟨xs, ⟨A, c, hE, hl, hc⟩, hg⟩ := ho _ _ _ _ _ _ _ _ _ hf
  simp [Value.cells] at hE
  obtain ⟨rfl, rfl, rfl⟩ := hE
  exact ⟨xs, rfl, hl, hc, hg⟩
end Go.Proofs.Ytpnbjpkdbiiogaa
/- No disk; the example. -/
namespace Go.Proofs.Ytpnbjpkdbiiogaa
set_option linter.unusedVariables false
open Go.RowKit Go.Maps Go.Proofs.YtpnbjpkdbiiogaaW.PrintWords
attribute [local go_sem] mx2 mn2 mxTwo mnTwo

theorem change_nil (w : World) : Calls Try.prog 103 #[.pointer none] w fun e w' => e = .returned (.int .i64 3) ∧ w = w' := by
  go_enter Try.func103, Try.ntmps103
  go_wp2
  go_ret
  exact ⟨rfl, rfl⟩
theorem knil_create (s : ByteArray) (w : World) : Calls Try.prog 62 #[.pointer none, .string s] w fun e w' => e = .returned (.int .i64 3) ∧ w = w' := by
  go_enter Try.func62, Try.ntmps62
  go_wp2_with (go_at_call 103; refine (change_nil _).mono ?_; rintro e w1 ⟨rfl, rfl⟩)
  go_ret
  exact ⟨rfl, rfl⟩
theorem knil_write (s : ByteArray) (k : Int) (A : Option Addr) (n c : Nat) (w : World) : Calls Try.prog 68 #[.pointer none, .string s, .int .i64 k, .slice A n c] w fun e w' => e = .returned (.int .i64 3) ∧ w = w' := by
  go_enter Try.func68, Try.ntmps68
  go_wp2_with (go_at_call 103; refine (change_nil _).mono ?_; rintro e w1 ⟨rfl, rfl⟩)
  go_ret
  exact ⟨rfl, rfl⟩
theorem knil_trunc (s : ByteArray) (k : Int) (w : World) : Calls Try.prog 77 #[.pointer none, .string s, .int .i64 k] w fun e w' => e = .returned (.int .i64 3) ∧ w = w' := by
  go_enter Try.func77, Try.ntmps77
  go_wp2_with (go_at_call 103; refine (change_nil _).mono ?_; rintro e w1 ⟨rfl, rfl⟩)
  go_ret
  exact ⟨rfl, rfl⟩
theorem knil_sync (s : ByteArray) (w : World) : Calls Try.prog 78 #[.pointer none, .string s] w fun e w' => e = .returned (.int .i64 3) ∧ w = w' := by
  go_enter Try.func78, Try.ntmps78
  go_wp2_with (go_at_call 103; refine (change_nil _).mono ?_; rintro e w1 ⟨rfl, rfl⟩)
  go_ret
  exact ⟨rfl, rfl⟩
theorem knil_syncdir (w : World) : Calls Try.prog 79 #[.pointer none] w fun e w' => e = .returned (.int .i64 3) ∧ w = w' := by
  go_enter Try.func79, Try.ntmps79
  go_wp2_with (go_at_call 103; refine (change_nil _).mono ?_; rintro e w1 ⟨rfl, rfl⟩)
  go_ret
  exact ⟨rfl, rfl⟩
theorem knil_rename (s t : ByteArray) (w : World) : Calls Try.prog 80 #[.pointer none, .string s, .string t] w fun e w' => e = .returned (.int .i64 3) ∧ w = w' := by
  go_enter Try.func80, Try.ntmps80
  go_wp2_with (go_at_call 103; refine (change_nil _).mono ?_; rintro e w1 ⟨rfl, rfl⟩)
  go_ret
  exact ⟨rfl, rfl⟩
theorem knil_unlink (s : ByteArray) (w : World) : Calls Try.prog 81 #[.pointer none, .string s] w fun e w' => e = .returned (.int .i64 3) ∧ w = w' := by
  go_enter Try.func81, Try.ntmps81
  go_wp2_with (go_at_call 103; refine (change_nil _).mono ?_; rintro e w1 ⟨rfl, rfl⟩)
  go_ret
  exact ⟨rfl, rfl⟩
theorem knil_size (s : ByteArray) (w : World) : Calls Try.prog 76 #[.pointer none, .string s] w fun e w' => e = .returned (.tuple #[.int .i64 0, .int .i64 3]) ∧ w = w' := by
  go_enter Try.func76, Try.ntmps76
  go_wp2
  go_ret2
  exact ⟨rfl, rfl⟩
theorem knil_read (s : ByteArray) (k n : Int) (w : World) : Calls Try.prog 70 #[.pointer none, .string s, .int .i64 k, .int .i64 n] w fun e w' => e = .returned (.tuple #[.slice none 0 0, .int .i64 3]) ∧ w = w' := by
  go_enter Try.func70, Try.ntmps70
  go_wp2
  go_ret2
  exact ⟨rfl, rfl⟩
theorem knil_arm (k : Int) (w : World) : Calls Try.prog 75 #[.pointer none, .int .i64 k] w fun e w' => e = .returned (.tuple #[]) ∧ w = w' := by
  go_enter Try.func75, Try.ntmps75
  go_wp2
  first | go_end0 | ((try simp only [Exit.inBlock, Exit.then]); refine bodyPost_ret (results_none rfl _ _ _) rfl ?_)
  exact ⟨rfl, rfl⟩
theorem knil_dead (w : World) : Calls Try.prog 82 #[.pointer none] w fun e w' => e = .returned (.bool true) ∧ w = w' := by
  go_enter Try.func82, Try.ntmps82
  go_wp2
  go_ret
  exact ⟨rfl, rfl⟩
theorem knil_used (w : World) : Calls Try.prog 83 #[.pointer none] w fun e w' => e = .returned (.int .i64 0) ∧ w = w' := by
  go_enter Try.func83, Try.ntmps83
  go_wp2
  go_ret
  exact ⟨rfl, rfl⟩
theorem knil_loose (w : World) : Calls Try.prog 84 #[.pointer none] w fun e w' => e = .returned (.int .i64 0) ∧ w = w' := by
  go_enter Try.func84, Try.ntmps84
  go_wp2
  go_ret
  exact ⟨rfl, rfl⟩
theorem knil_crash (A : Option Addr) (n c : Nat) (w : World) : Calls Try.prog 85 #[.pointer none, .slice A n c] w fun e w' => e = .returned (.pointer none) ∧ Below w.heap.size w w' := by
  go_enter Try.func85, Try.ntmps85
  go_wp2
  go_ret
  exact ⟨rfl, by first | exact Below.refl _ _ | exact below_alloc (Below.refl _ _) _ | exact below_alloc (below_alloc (Below.refl _ _) _) _⟩
theorem C_blk {W : World} {q : Nat} {cs : Array Value} {t : TypeId} (hb : W.heap[q]? = some (.cells cs t (0, 0))) (xs : List Int) (hcs : cs.toList = xs.map (Value.int .u8)) (hm : xs.length ≤ 9223372036854775807) : Kd.C (Kd.int .u8) W (some ⟨q, 0, none⟩) xs.length xs := by
  refine ⟨rfl, hm, fun _ => ⟨_, rfl, fun j p hp => ⟨[.int .u8 p], rfl, rfl, fun i u hu => ?_⟩⟩⟩
  match i, hu with
  | 0, hu =>
    cases hu
    show W.cell? ((⟨q, 0, none⟩ : Addr).add (j * 1 + 0)) = some (.int .u8 p)
    rw [add_plain, blk_cell hb, ← Array.getElem?_toList, hcs, List.getElem?_map, Nat.mul_one, Nat.add_zero, hp]
    rfl
def nA : ByteArray := ⟨#[65]⟩
def fA (g : Nat) (vn vo : Value) (now : List Int) (ops : List FOp) : FR := ⟨0, g, vn, .slice none 0 0, vo, now, [], ops⟩
theorem rightA : doCode [] ⟨0, nA, ⟨#[]⟩, 0⟩ = 0 := by decide +kernel
theorem didA : didL [] ⟨0, nA, ⟨#[]⟩, 0⟩ = [(nA, 0)] := by decide +kernel
theorem getA : getN [(nA, 0)] nA = some 0 := by decide +kernel
theorem risA : Rising [(nA, 0)] := by unfold Rising nmL; simp
theorem fileA (p : FR) (h : p.id = 0) : fileAt [p] 0 = some p := by unfold fileAt; simp [h]
theorem kgA (p : FR) (h : p.id = 0) (hl : p.now.length ≤ 1048576) (ho : p.ops.length ≤ 500000) : KG [(nA, 0)] [p] :=
  ⟨fun q hq => by rw [List.mem_singleton] at hq; subst hq; exact ⟨by decide, by decide, p, fileA p h⟩, fun f hf => by rw [List.mem_singleton] at hf; subst hf; exact ⟨hl, ho⟩⟩
theorem usedA (p : FR) (h : p.id = 0) : usedF [p] [(nA, 0)] = cnt (p.now.length : Int) := by
  unfold usedF
  simp [lenA_some (fileA p h)]
theorem wA : (writeF ([], []) 0 (List.replicate 64 0)).1.length = 64 ∧ (writeF ([], []) 0 (List.replicate 64 0)).2.length = 2 := by decide +kernel
theorem zero_kept (w2 : World) (g g1 : Nat) (hg : g < w2.heap.size) (hg1 : g1 < w2.heap.size) : ∀ W', (∀ j, j < (w2.alloc (.cells (madeCells #[.int .u8 0] 64) 5)).heap.size → j ≠ g → j ≠ g1 → some j ≠ (Value.slice none 0 0).ownBlock → W'.heap[j]? = (w2.alloc (.cells (madeCells #[.int .u8 0] 64) 5)).heap[j]?) → ∀ {b : Nat} {W : World}, Below b W W' → Kd.C (Kd.int .u8) W' (some ⟨w2.heap.size, 0, none⟩) 64 (List.replicate 64 0) := by
  intro W' hk b W _
  have hz : (w2.alloc (.cells (madeCells #[.int .u8 0] 64) 5)).heap.size = w2.heap.size + 1 := World.size_alloc ..
  have hb := (hk w2.heap.size (by omega) (by omega) (by omega) (by simp [Value.ownBlock])).trans (blk_new w2 _)
  exact C_blk hb (List.replicate 64 0) (by rw [toList_madeCells_one]; rfl) (by simp)
theorem setA (p : FR) (vn vs vo : Value) (now safe : List Int) (ops : List FOp) : setFile [p] ⟨p.id, p.g, vn, vs, vo, now, safe, ops⟩ = [⟨p.id, p.g, vn, vs, vo, now, safe, ops⟩] := by unfold setFile; simp
theorem hasA (g1 : Nat) (vn vo : Value) (now : List Int) (ops : List FOp) (n : Int) (hn : (now.length : Int) = n) (h0 : n = 0) : hasF [fA g1 vn vo now ops] [(nA, 0)] 1 ((fA g1 vn vo now ops).now.length) 64 = true := by
  subst h0
  unfold hasF
  rw [usedA _ rfl]
  show (decide (cnt 64 - cnt (now.length : Int) ≤ 0) || decide (cnt (now.length : Int) + (cnt 64 - cnt (now.length : Int)) ≤ 1)) = true
  rw [hn]
  decide
theorem hasN (g1 : Nat) (vn vo : Value) (now : List Int) (ops : List FOp) (hn : now.length = 64) : hasF [fA g1 vn vo now ops] [(nA, 0)] 1 ((fA g1 vn vo now ops).now.length) 65 = false := by
  unfold hasF
  rw [usedA _ rfl]
  show (decide (cnt 65 - cnt (now.length : Int) ≤ 0) || decide (cnt (now.length : Int) + (cnt 65 - cnt (now.length : Int)) ≤ 1)) = false
  rw [hn]
  decide
set_option maxHeartbeats 1000000 in
set_option maxRecDepth 100000 in
theorem awake08_any (w : World) : Calls Try.prog 74 #[] w fun e w' => e = .returned (.bool true) ∧ Below w.heap.size w w' := by
  have hmk : ∀ w : World, (Instr.makeSlice 22 (.int .i64 64) (.int .i64 64)).run Try.prog w = .ok (.slice (some ⟨w.heap.size, 0, none⟩) 64 64) (w.alloc (.cells (madeCells #[.int .u8 0] 64) 5)) := fun w => run_make_row' (P := Try.prog) 22 5 (.int .u8 0) 1 Try.underlying22 infoU8 rfl .i64 .i64 64 (by omega) (by omega) w
  have T1 := Aside0.mk trivial
  go_enter Try.func74, Try.ntmps74
  go_wp2_with (first
    | (go_at_call 61; refine (knew_any w.heap.size (fun _ => True) 1 _ (Nat.le_refl _) (fun _ _ => trivial)).mono ?_; rintro e w1 ⟨g, gd, mn, ms, mf, rfl, hk, hb⟩; have H := Aside0.mk (show DK w1 w.heap.size (fun _ => True) g gd mn ms (.slice none 0 0) 0 [] [] [] mf 0 [] 0 1 0 false false from hk); have HB := Aside0.mk hb; clear hk hb)
    | (go_at_call 62; refine (kcreate_ok w.heap.size (fun _ => True) g gd mn ms _ 0 [] [] [] mf 0 [] 0 1 0 false false _ H.out (by decide) (by decide) (by decide) (by decide) (by decide) (by decide) (by decide) (fun p hp => by simp at hp) nA ⟨#[]⟩ (by decide) rfl rightA).mono ?_; rintro e w2 ⟨rfl, vo1, g1, hk, hl⟩; rw [didA] at hk; have hbn := HB.out.trans hl; clear H HB; have H := Aside0.mk (show DK w2 w.heap.size (fun _ => True) g gd mn ms vo1 1 [(nA, 0)] [] [nrm ⟨0, nA, ⟨#[]⟩, 0⟩] mf 1 [fA g1 (.slice none 0 0) (.slice none 0 0) [] []] 1 1 0 false false from hk); have HB := Aside0.mk hbn; clear hk hl hbn)
    | (go_at_call 68; have gate := T1.out; refine (kwrite_ok w.heap.size (fun _ => True) g gd mn ms vo1 1 [(nA, 0)] [] [nrm ⟨0, nA, ⟨#[]⟩, 0⟩] mf 1 [fA g1 (.slice none 0 0) (.slice none 0 0) [] []] 1 1 0 false false _ (H.out.below (below_alloc (Below.refl _ _) _)) (kgA _ rfl (by simp [fA]) (by simp [fA])) risA (by decide) (by decide) (fun p hp => by rw [List.mem_singleton] at hp; subst hp; decide) (by decide) (by decide) (by decide) rfl nA (by decide) 0 (fA g1 (.slice none 0 0) (.slice none 0 0) [] []) getA (fileA _ rfl) 0 (some ⟨w2.heap.size, 0, none⟩) 64 64 (by decide) (by decide) (List.replicate 64 0) (by simp) (by decide) (fun W' h1 h2 => zero_kept w2 g g1 (blk_lt H.out.hb) (blk_lt (H.out.hf.hf _ (List.mem_singleton_self _)).hb) W' h1 h2) (.inr (hasA g1 _ _ _ _ 0 rfl rfl))).mono ?_; rintro e w3 ⟨rfl, vn', vo', hk, _, hl⟩; rw [setA] at hk; have hbn := (below_alloc HB.out _).trans hl; clear H HB T1 gate; have H := Aside0.mk (show DK w3 w.heap.size (fun _ => True) g gd mn ms vo1 1 [(nA, 0)] [] [nrm ⟨0, nA, ⟨#[]⟩, 0⟩] mf 1 [fA g1 vn' vo' (writeF ([], []) 0 (List.replicate 64 0)).1 (writeF ([], []) 0 (List.replicate 64 0)).2] 1 1 0 false false from hk); have HB := Aside0.mk hbn; clear hk hl hbn)
    | (go_at_call 68; refine (kwrite_space w.heap.size (fun _ => True) g gd mn ms vo1 1 [(nA, 0)] [] [nrm ⟨0, nA, ⟨#[]⟩, 0⟩] mf 1 [fA g1 vn' vo' (writeF ([], []) 0 (List.replicate 64 0)).1 (writeF ([], []) 0 (List.replicate 64 0)).2] 1 1 0 false false _ (H.out.below (below_alloc (Below.refl _ _) _)) (kgA _ rfl (by show (writeF _ _ _).1.length ≤ _; rw [wA.1]; decide) (by show (writeF _ _ _).2.length ≤ _; rw [wA.2]; decide)) risA (by decide) (by decide) (fun p hp => by rw [List.mem_singleton] at hp; subst hp; decide) (by decide) (by decide) (by decide) rfl nA (by decide) 0 (fA g1 vn' vo' (writeF ([], []) 0 (List.replicate 64 0)).1 (writeF ([], []) 0 (List.replicate 64 0)).2) getA (fileA _ rfl) 64 _ 1 1 (by decide) (by decide) (by decide) (hasN g1 _ _ _ _ wA.1)).mono ?_; rintro e w4 ⟨rfl, hk, hl⟩; have hbn := (below_alloc HB.out _).trans hl; clear HB; have HB := Aside0.mk hbn; clear hk hl hbn))
  go_ret
  exact ⟨rfl, HB.out⟩
end Go.Proofs.Ytpnbjpkdbiiogaa
/- The law on caches: light, name, kept. -/
namespace Go.Proofs.Ytpnbjpkdbiiogaa
set_option linter.unusedVariables false
open Go.RowKit Go.Maps Go.Proofs.YtpnbjpkdbiiogaaW.PrintWords
attribute [local go_sem] mx2 mn2 mxTwo mnTwo

theorem wlight_yes (kd k n : Int) (q : Bool) (A : Option Addr) (m c : Nat) (w : World) (h1 : m ≤ 600) (h2 : n ≤ 3000 ∨ ¬ n ≤ 3000 ∧ 1048576 < n) (h3 : k ≤ 1048578 ∨ ¬ k ≤ 1048578 ∧ 1099511627776 < k) : Calls Try.prog 64 #[(.agg #[.int .i64 kd, .bool q, .int .i64 k, .int .i64 n, .slice A m c])] w fun e w' => e = .returned (.bool true) ∧ Below w.heap.size w w' := by
  have d1 : decide (m ≤ 600) = true := decide_eq_true h1
  rcases h2 with h2 | ⟨h2, h4⟩ <;> rcases h3 with h3 | ⟨h3, h5⟩
  · have d2 := decide_eq_true h2
    have d3 := decide_eq_true h3
    clear h2 h3
    go_enter Try.func64, Try.ntmps64
    go_wp2
    go_ret
    exact ⟨rfl, below_alloc (Below.refl _ _) _⟩
  · have d2 := decide_eq_true h2
    have d3 := decide_eq_false h3
    have d5 := decide_eq_true h5
    clear h2 h3 h5
    go_enter Try.func64, Try.ntmps64
    go_wp2
    go_ret
    exact ⟨rfl, below_alloc (Below.refl _ _) _⟩
  · have d2 := decide_eq_false h2
    have d4 := decide_eq_true h4
    have d3 := decide_eq_true h3
    clear h2 h3 h4
    go_enter Try.func64, Try.ntmps64
    go_wp2
    go_ret
    exact ⟨rfl, below_alloc (Below.refl _ _) _⟩
  · have d2 := decide_eq_false h2
    have d4 := decide_eq_true h4
    have d3 := decide_eq_false h3
    have d5 := decide_eq_true h5
    clear h2 h3 h4 h5
    go_enter Try.func64, Try.ntmps64
    go_wp2
    go_ret
    exact ⟨rfl, below_alloc (Below.refl _ _) _⟩
theorem wlight_no (kd k n : Int) (q : Bool) (A : Option Addr) (m c : Nat) (w : World) (h : ¬ (m ≤ 600 ∧ (n ≤ 3000 ∨ 1048576 < n) ∧ (k ≤ 1048578 ∨ 1099511627776 < k))) : Calls Try.prog 64 #[(.agg #[.int .i64 kd, .bool q, .int .i64 k, .int .i64 n, .slice A m c])] w fun e w' => e = .returned (.bool false) ∧ Below w.heap.size w w' := by
  by_cases h1 : m ≤ 600
  · have d1 : decide (m ≤ 600) = true := decide_eq_true h1
    by_cases h2 : n ≤ 3000
    · have d2 := decide_eq_true h2
      have d3 := decide_eq_false (show ¬ k ≤ 1048578 from fun e => h ⟨h1, .inl h2, .inl e⟩)
      have d5 := decide_eq_false (show ¬ 1099511627776 < k from fun e => h ⟨h1, .inl h2, .inr e⟩)
      clear h h2
      go_enter Try.func64, Try.ntmps64
      go_wp2
      go_ret
      exact ⟨rfl, below_alloc (Below.refl _ _) _⟩
    · have d2 := decide_eq_false h2
      by_cases h4 : 1048576 < n
      · have d4 := decide_eq_true h4
        have d3 := decide_eq_false (show ¬ k ≤ 1048578 from fun e => h ⟨h1, .inr h4, .inl e⟩)
        have d5 := decide_eq_false (show ¬ 1099511627776 < k from fun e => h ⟨h1, .inr h4, .inr e⟩)
        clear h h2 h4
        go_enter Try.func64, Try.ntmps64
        go_wp2
        go_ret
        exact ⟨rfl, below_alloc (Below.refl _ _) _⟩
      · have d4 := decide_eq_false h4
        clear h h2 h4
        go_enter Try.func64, Try.ntmps64
        go_wp2
        go_ret
        exact ⟨rfl, below_alloc (Below.refl _ _) _⟩
  · have d1 : decide (m ≤ 600) = false := decide_eq_false h1
    clear h
    go_enter Try.func64, Try.ntmps64
    go_wp2
    go_ret
    exact ⟨rfl, below_alloc (Below.refl _ _) _⟩
theorem wname_any (kd k n : Int) (q : Bool) (A : Option Addr) (m c : Nat) (w : World) : Calls Try.prog 66 #[(.agg #[.int .i64 kd, .bool q, .int .i64 k, .int .i64 n, .slice A m c])] w fun e w' => e = .returned (.string (nmOf q)) ∧ Below w.heap.size w w' := by
  cases q
  · go_enter Try.func66, Try.ntmps66
    go_wp2
    go_ret
    exact ⟨rfl, below_alloc (Below.refl _ _) _⟩
  · go_enter Try.func66, Try.ntmps66
    go_wp2
    go_ret
    exact ⟨rfl, below_alloc (Below.refl _ _) _⟩
set_option maxHeartbeats 2000000 in
set_option maxRecDepth 100000 in
theorem kept43_any (b g c d mostN mp N G : Nat) (s : WSt) (w : World) (h : CS w b (fun _ => True) c d mostN mp N s) (ok : OkW mostN s G) (hG : G ≤ 1000000) (hr : RC w b (fun _ => True) g mostN s) :
    Calls Try.prog 72 #[.pointer (some ⟨c, 0, none⟩), .pointer (some ⟨g, 0, none⟩)] w fun e w' => e = .returned (.bool true) ∧ Below w.heap.size w w' := by
  have hlen : s.L.length ≤ 1000000 := by have := ok.cnt; omega
  obtain ⟨⟨vL, hb, hq⟩, hg, hx⟩ := hr
  obtain ⟨A1, c1, rfl, hlc⟩ := Kd.Q_slice hq
  obtain ⟨l, hci, hL⟩ := h
  have hw := wkept_any (fun _ => True) b c d mostN mp N G s w ⟨l, hci, hL⟩ ok hG
  have HW := Aside0.mk hw
  have HB0 := Aside0.mk hb
  have HQ := Aside0.mk hq
  have HCB := Aside0.mk hci.hb
  clear hci hL ok hw hb hq hx
  obtain ⟨ns, hns⟩ : ∃ ns : List Int, ns = s.L.map (fun p => (p.b.length : Int)) := ⟨_, rfl⟩
  rw [← hns] at HW
  have HNL := Aside0.mk (show ns.length = s.L.length by rw [hns, List.length_map])
  have HNS := Aside0.mk (fun (j : Nat) (hj : j < s.L.length) => (show ns.getD j 0 = ((s.L.getD j zPv).b.length : Int) by
    rw [hns, List.getD_eq_getElem?_getD, List.getElem?_map, List.getD_eq_getElem?_getD, List.getElem?_eq_getElem hj]
    rfl))
  clear hns
  go_enter Try.func72, Try.ntmps72
  go_wp2_with (go_at_call 73; refine (HW.out).mono ?_; rintro e w1 ⟨v1, rfl, hv, hb⟩; obtain ⟨A5, c5, rfl⟩ := Kd.R_slice hv; rw [HNL.out] at hv ⊢; have hgb := blk_below HB0.out hb; have hcb := blk_below HCB.out hb; have s0 := (blk_cell hgb 0).trans (rfl : _ = some (Value.slice A1 s.L.length c1)); have s2 := (blk_cell hgb 2).trans (rfl : _ = some (Value.int .i64 s.hits)); have s3 := (blk_cell hgb 3).trans (rfl : _ = some (Value.int .i64 s.misses)); have k5 := (blk_cell hcb 5).trans (rfl : _ = some (Value.int .i64 s.hits)); have k6 := (blk_cell hcb 6).trans (rfl : _ = some (Value.int .i64 s.misses)); have HV := Aside0.mk hv; have HB := Aside0.mk hb; clear hv hb hgb hcb)
  go_quiet (fail)
  go_wp2_with fail
  generalize hW2 : World.drewN _ _ = W2
  have hb2 : Below w1.heap.size w1 W2 := by rw [← hW2]; exact pw_below_drewN (Below.refl _ _) _
  have HB2 := Aside0.mk (below_step HB.out hb2)
  have HV2 := Aside0.mk (Kd.R_below HV.out hb2)
  have S0 := Aside0.mk (pw_cell_below hb2 s0)
  clear hW2 hb2 s0 s2 s3 k5 k6 HV HB HW HCB
  go_loopg [6] s.L.length (fun z v6 wr => ∃ j : Nat, v6 = .int .i64 (j : Int) ∧ j ≤ s.L.length ∧ Aside0 (z = s.L.length - j) ∧ Aside0 (Below W2.heap.size W2 wr))
  case atStart => exact ⟨0, rfl, Nat.zero_le _, ⟨rfl⟩, ⟨Below.refl _ _⟩⟩
  case round =>
    obtain ⟨j, rfl, hj, hz, HBR⟩ := hrel
    by_cases hlt : j < s.L.length
    · obtain ⟨ad, A2, c2, rfl, r1, r2, r3, r4⟩ := at_Pv (Kd.Q_below HQ.out (below_step HB2.out HBR.out)) j (by omega)
      have hnv := Kd.R_reads' (Kd.R_below HV2.out HBR.out)
      obtain ⟨hn1, _, hcv⟩ := hnv
      rw [← hn1] at hcv
      obtain ⟨ad5, rfl, r5⟩ := Kd.at_int hcv (j : Int) (by omega) (by omega)
      have e5 : rd ns (j : Int) = ((s.L.getD j zPv).b.length : Int) := by
        rw [rd_getD]
        exact HNS.out j hlt
      rw [e5, Int.toNat_natCast] at r5
      generalize (s.L.getD j zPv).b.length = bl at *
      have s0 := pw_cell_below HBR.out S0.out
      clear r1 r2 r4 hn1 hcv e5
      go_wp2_with fail
      go_quiet (fail)
      go_wp2_with fail
      go_roundg (s.L.length - (j + 1))
      case measure => have := hz.out; omega
      case rel => exact ⟨j + 1, by go_num, by omega, ⟨rfl⟩, ⟨pw_below_drewN HBR.out _⟩⟩
    · obtain rfl : j = s.L.length := by omega
      go_wp2_with fail
      go_ret
      exact ⟨rfl, below_step HB2.out HBR.out⟩
end Go.Proofs.Ytpnbjpkdbiiogaa
/- The cache: a file that is none. -/
namespace Go.Proofs.Ytpnbjpkdbiiogaa
set_option linter.unusedVariables false
open Go.RowKit Go.Maps Go.Proofs.YtpnbjpkdbiiogaaW.PrintWords
attribute [local go_sem] mx2 mn2 mxTwo mnTwo

set_option maxHeartbeats 2000000 in
set_option maxRecDepth 100000 in
theorem wget_none (x : Nat → Prop) (b c d mp N : Nat) (most : Int) (l : List Nd) (hits misses : Int) (w : World) (h : CI w b x c d most mp N l hits misses) (hks : KeysN l) (nm : ByteArray) (k : Int) (hnm : nm.size ≤ maxLen) (hk0 : 0 ≤ k) (hk1 : k ≤ 100000) (hno : ∀ q ∈ l, ¬ (q.p.nm = nm ∧ q.p.n = k)) (hm0 : 0 ≤ misses) (hm1 : misses ≤ 1000000) (hrd : ∀ W, KN w W mp → Calls Try.prog 70 #[.pointer (some ⟨d, 0, none⟩), .string nm, .int .i64 (k * 256), .int .i64 256] W fun e w' => e = .returned (.tuple #[.slice none 0 0, .int .i64 6]) ∧ W = w') :
    Calls Try.prog 107 #[.pointer (some ⟨c, 0, none⟩), .agg #[.string nm, .int .i64 k]] w fun e w' => e = .returned (.tuple #[.slice none 0 0, .int .i64 6]) ∧ Below b w w' := by
  have HRD := Aside0.mk hrd
  clear hrd
  have hkey := key_is nm k hnm (wf64 hk0 (by omega))
  have hnoL : mapN l (kL nm k) = none := mapN_no l _ (fun q hq e => hno q hq (kL_inj (q := ⟨nm, k, []⟩) (hks.1 q hq) ⟨hnm, hk0, hk1⟩ e))
  have hl : ∀ (W : World), Below w.heap.size w W → (Instr.lookup 119 (.map (some mp)) (.agg #[.string nm, .int .i64 k]) true).run Try.prog W = .ok (.tuple #[.pointer none, .bool false]) W := fun W hW => mv_lookok_run (h.hm.below hW) lawW Try.underlying119 (zeroPc W) hkey (by rw [hnoL]; rfl) (by rw [hnoL]; rfl)
  obtain ⟨W1, hW1⟩ : ∃ W1, W1 = w.alloc (.cells #[.string nm, .int .i64 k] 163) := ⟨_, rfl⟩
  have hb1 : Below w.heap.size w W1 := by rw [hW1]; exact below_alloc (Below.refl _ _) _
  have hkb : W1.heap[w.heap.size]? = some (.cells #[.string nm, .int .i64 k] 163 (0, 0)) := by rw [hW1]; exact blk_new _ _
  have hl1 : ∀ j, (Instr.lookup 119 (.map (some mp)) (.agg #[.string nm, .int .i64 k]) true).run Try.prog (W1.drewN j) = .ok (.tuple #[.pointer none, .bool false]) (W1.drewN j) := fun j => hl _ (pw_below_drewN hb1 j)
  have h1 := h.below hb1
  have c2 := (blk_cell h1.hb 2).trans (rfl : _ = some (Value.map (some mp)))
  have c6 := (blk_cell h1.hb 6).trans (rfl : _ = some (Value.int .i64 misses))
  have f6 := blk_frozen h1.hb 6
  have k0 := (blk_cell hkb 0).trans (rfl : _ = some (Value.string nm))
  have k1 := (blk_cell hkb 1).trans (rfl : _ = some (Value.int .i64 k))
  have H := Aside0.mk h
  have H1 := Aside0.mk h1
  have HB1 := Aside0.mk hb1
  have HKB := Aside0.mk hkb
  have HKS := Aside0.mk hks
  have HKY := Aside0.mk hkey
  have hwr : IntKind.i64.wrap (misses + 1) = misses + 1 := by rw [IntKind.wrap_i64]; omega
  have hwr2 : IntKind.i64.wrap (k * 256) = k * 256 := by rw [IntKind.wrap_i64]; omega
  clear h h1 hb1 hks hl hkb hkey hno hnoL
  go_enter Try.func107, Try.ntmps107
  go_wp2_with fail
  rw [← hW1]
  obtain ⟨kb, hkbE⟩ : ∃ kb, kb = w.heap.size := ⟨_, rfl⟩
  rw [← hkbE] at k0 k1 HKB ⊢
  clear hkbE hW1
  go_quiet (fail)
  go_wp2_with fail
  generalize hW3 : World.setCell _ _ _ = W3
  have hs3 : SB w W3 c l := by
    rw [← hW3]
    exact (SB.of_below (pw_below_drewN HB1.out _)).trans (SB.put 6 _) (fun p hp => .inl hp)
  have hc3 : W3.heap[c]? = some (.cells (cC d most mp (headG l) (lastG l) hits (misses + 1)) 122 (0, 0)) := by
    rw [← hW3]
    exact blk_put (blk_drewN H1.out.hb _) 6 _ rfl
  have hr3 : RowW W3 l := H.out.hr.move (fun p hp => by
    rw [← hW3]
    exact (Below.heap_setCell _ ⟨c, 6, none⟩ _ _ (H.out.ne hp)).trans (HB1.out.block _ (H.out.hr.lt hp)))
  have hk3 : W3.heap[kb]? = some (.cells #[.string nm, .int .i64 k] 163 (0, 0)) := by
    rw [← hW3]
    exact blk_far (blk_drewN HKB.out _) (p := ⟨c, 6, none⟩) (blk_ne HKB.out H1.out.hb (by decide)) _
  have HC3 := Aside0.mk (H.out.turned HKS.out hs3 hc3 hr3 (List.Perm.refl _))
  have HN3 := Aside0.mk (H.out.kn hs3)
  have HL3 := Aside0.mk (H.out.below_b hs3)
  have HK3 := Aside0.mk hk3
  replace k0 := (blk_cell hk3 0).trans (rfl : _ = some (Value.string nm))
  replace k1 := (blk_cell hk3 1).trans (rfl : _ = some (Value.int .i64 k))
  have s0 := (blk_cell hc3 0).trans (rfl : _ = some (Value.pointer (some ⟨d, 0, none⟩)))
  clear hW3 hs3 hc3 hr3 hk3 c2 c6 f6 HKB HB1 H1 hl1 hwr
  go_region_held3 (fun w' => w'.cell? ⟨c, 0, none⟩ = some (.pointer (some ⟨d, 0, none⟩)) ∧ w'.cell? ⟨kb, 0, none⟩ = some (.string nm) ∧ w'.cell? ⟨kb, 1, none⟩ = some (.int .i64 k)) (first | with_reducible exact ⟨s0, k0, k1⟩ | exact ⟨s0, k0, k1⟩) (first
    | (go_at_call 70; refine (HRD.out _ (HN3.out.trans (KN.of_below (below_drew1 (Below.refl _ _))))).mono ?_; rintro e w4 ⟨rfl, rfl⟩))
  all_goals
    go_wp2_with fail
    go_ret2
    exact ⟨rfl, by first | exact HL3.out | exact below_drew1 HL3.out⟩
theorem wread_none (b c d mostN mp N G : Nat) (s : WSt) (w : World) (h : CS w b (fun _ => True) c d mostN mp N s) (ok : OkW mostN s G) (hG : G ≤ 1000000) (nm : ByteArray) (hnm : nm.size ≤ maxLen) (hno : ∀ p ∈ s.L, ¬ p.nm = nm) (hrd : ∀ W (k : Int), KN w W mp → Calls Try.prog 70 #[.pointer (some ⟨d, 0, none⟩), .string nm, .int .i64 k, .int .i64 256] W fun e w' => e = .returned (.tuple #[.slice none 0 0, .int .i64 6]) ∧ W = w') :
    Calls Try.prog 69 #[.pointer (some ⟨c, 0, none⟩), .string nm, .int .i64 0, .int .i64 1] w fun e w' => e = .returned (.tuple #[.slice none 0 0, .int .i64 6]) ∧ Below b w w' := by
  obtain ⟨l, hci, hL⟩ := h
  have c2 : w.cell? ⟨c, 2, none⟩ = some (.map (some mp)) := (blk_cell hci.hb 2).trans rfl
  have qm : ∀ (w : World) (r : Option Nat), (binOp .eql 119 (.map r) (.map none)).run Try.prog w = .ok (.bool r.isNone) w := fun w r => run_eql_map_nil w _ _ _ r Try.underlying119
  have hg := wget_none (fun _ => True) b c d mp N (mostN : Int) l s.hits s.misses w hci (keysN_of hL ok) nm 0 hnm (Int.le_refl _) (by omega) (fun q hq e => hno q.p (hL ▸ List.mem_map.2 ⟨q, hq, rfl⟩) e.1) ok.m.1 (by have := ok.m.2; omega) (fun W hW => hrd W _ hW)
  have HG := Aside0.mk hg
  clear hci hL ok hno hrd hg
  go_enter Try.func69, Try.ntmps69
  go_wp2_with fail
  clear c2 qm
  refine wp_loop_rounds 1 ?_
  rw [rounds_succ]
  go_wp2_with (go_at_call 107; refine (HG.out).mono ?_; rintro e w4 ⟨rfl, hb4⟩; have HB4 := Aside0.mk hb4; clear hb4)
  go_ret2
  exact ⟨rfl, HB4.out⟩
end Go.Proofs.Ytpnbjpkdbiiogaa
/- The law on caches: new disks; the example. -/
namespace Go.Proofs.Ytpnbjpkdbiiogaa
set_option linter.unusedVariables false
open Go.RowKit Go.Maps Go.Proofs.YtpnbjpkdbiiogaaW.PrintWords
attribute [local go_sem] mx2 mn2 mxTwo mnTwo

theorem rightA43 : doCode [] ⟨0, nmA, ⟨#[]⟩, 0⟩ = 0 := by decide +kernel
theorem didA43 : didL [] ⟨0, nmA, ⟨#[]⟩, 0⟩ = nwW false := by decide +kernel
theorem rightB43 : doCode (nwW false) ⟨0, nmB, ⟨#[]⟩, 1⟩ = 0 := by decide +kernel
theorem didB43 : didL (nwW false) ⟨0, nmB, ⟨#[]⟩, 1⟩ = nwW true := by decide +kernel
def nilV : Value := .slice none 0 0
def fr0 (id : Int) (g : Nat) : FR := ⟨id, g, nilV, nilV, nilV, [], [], []⟩
/-- A disk that has a file. -/
theorem wd_a {w : World} {b g gd mn ms mf : Nat} {room : Int} (h : DK w b (fun _ => True) g gd mn ms (.slice none 0 0) 0 [] [] [] mf 0 [] 0 room 0 false false) :
    Calls Try.prog 62 #[.pointer (some ⟨g, 0, none⟩), .string nmA] w fun e w' => e = .returned (.int .i64 0) ∧ ∃ vo' g1, DK w' b (fun _ => True) g gd mn ms vo' 1 (nwW false) [] [nrm ⟨0, nmA, ⟨#[]⟩, 0⟩] mf 1 [fr0 0 g1] 1 room 0 false false ∧ Below b w w' := by
  have h1 := kcreate_ok b (fun _ => True) g gd mn ms _ 0 [] [] [] mf 0 [] 0 room 0 false false w h (by decide) (by decide) (by decide) (by decide) (by decide) (by decide) (by decide) (fun p hp => by simp at hp) nmA ⟨#[]⟩ (by decide) rfl rightA43
  rw [didA43] at h1
  exact h1
theorem wd_b {w : World} {b g gd mn ms mf g1 : Nat} {vo : Value} {room : Int} (h : DK w b (fun _ => True) g gd mn ms vo 1 (nwW false) [] [nrm ⟨0, nmA, ⟨#[]⟩, 0⟩] mf 1 [fr0 0 g1] 1 room 0 false false) :
    Calls Try.prog 62 #[.pointer (some ⟨g, 0, none⟩), .string nmB] w fun e w' => e = .returned (.int .i64 0) ∧ ∃ B0, WD w' b g true [] [] room 0 0 B0 ∧ B0 ≤ w'.heap.size ∧ Below b w w' := by
  have h1 := kcreate_ok b (fun _ => True) g gd mn ms _ 1 (nwW false) [] _ mf 1 [fr0 0 g1] 1 room 0 false false w h (by decide) (by decide) (by decide) (by decide) (by simp) (by decide) (by decide) (fun p hp => by rw [List.mem_singleton] at hp; subst hp; show (0 : Int) < 1; decide) nmB ⟨#[]⟩ (by decide) rfl rightB43
  rw [didB43] at h1
  refine h1.mono ?_
  rintro e w' ⟨rfl, vo', g2, hk, hb⟩
  refine ⟨rfl, w'.heap.size, ⟨_, _, _, _, _, _, _, _, _, _, _, hk, ⟨fun b' _ => ?_, fun f hf => ?_⟩, by decide, hk.hm.lt, hk.hd.hn.lt, hk.hd.hs.lt⟩, Nat.le_refl _, hb⟩
  · cases b'
    · exact ⟨_, rfl, rfl⟩
    · exact ⟨_, rfl, rfl⟩
  · rcases List.mem_append.1 hf with hf | hf
    · rw [List.mem_singleton.1 hf]
      exact ⟨Nat.le_refl _, Nat.le_refl _⟩
    · rw [List.mem_singleton.1 hf]
      exact ⟨Nat.le_refl _, Nat.le_refl _⟩
theorem wd_one {w : World} {b g gd mn ms mf g1 N : Nat} {vo vn vo1 : Value} {sf : List DN} {ops : List DOp} {na : List Int} {fo : List FOp} {room next : Int} {M : Nat} (h : DK w b (fun _ => True) g gd mn ms vo N (nwW false) sf ops mf M [⟨0, g1, vn, nilV, vo1, na, [], fo⟩] next room 0 false false) (hN : N ≤ 10) : WD w b g false na [] room na.length fo.length w.heap.size := by
  refine ⟨_, _, _, _, _, _, _, _, _, _, _, h, ⟨fun b' hb' => ?_, fun f hf => ?_⟩, hN, h.hm.lt, h.hd.hn.lt, h.hd.hs.lt⟩
  · cases b' with
    | false => exact ⟨_, rfl, rfl⟩
    | true => exact absurd (hb' rfl) (by decide)
  · rw [List.mem_singleton.1 hf]
    exact ⟨Nat.le_refl _, Nat.le_refl _⟩
theorem WD.more {W : World} {b g : Nat} {two : Bool} {na nb : List Int} {room : Int} {Z Z' K K' B0 B0' : Nat} (h : WD W b g two na nb room Z K B0) (hZ : Z ≤ Z') (hK : K ≤ K') (hB : B0 ≤ B0') : WD W b g two na nb room Z' K' B0' := by
  obtain ⟨gd, mn, ms, vo, N, safe, ops, mf, M, fl, next, h1, h2, h3, h4, h5, h6⟩ := h
  exact ⟨gd, mn, ms, vo, N, safe, ops, mf, M, fl, next, h1, ⟨h2.at_, fun f hf => ⟨Nat.le_trans (h2.all f hf).1 hZ, Nat.le_trans (h2.all f hf).2 hK⟩⟩, h3, by omega, by omega, by omega⟩
def zr : List Int := (writeF ([], []) 0 (List.replicate 300 0)).1
set_option maxRecDepth 10000000 in
theorem zr_len : zr.length = 300 ∧ (writeF ([], []) 0 (List.replicate 300 0)).2.length ≤ 10 := by decide +kernel
set_option maxRecDepth 10000000 in
theorem aw43 : (readN 1 zr nmA ⟨[], 0, 0⟩ 0 10).2.length = 10 ∧ (readN 1 zr nmA (readN 1 zr nmA ⟨[], 0, 0⟩ 0 10).1 5 10).1.hits = 1 ∧ (readN 1 zr nmA (readN 1 zr nmA ⟨[], 0, 0⟩ 0 10).1 5 10).1.misses = 1 := by decide +kernel
set_option maxRecDepth 1000000 in
theorem zero_kept3 (w2 : World) (g g1 : Nat) (hg : g < w2.heap.size) (hg1 : g1 < w2.heap.size) : ∀ W', (∀ j, j < (w2.alloc (.cells (madeCells #[.int .u8 0] 300) 5)).heap.size → j ≠ g → j ≠ g1 → some j ≠ (Value.slice none 0 0).ownBlock → W'.heap[j]? = (w2.alloc (.cells (madeCells #[.int .u8 0] 300) 5)).heap[j]?) → ∀ {b : Nat} {W : World}, Below b W W' → Kd.C (Kd.int .u8) W' (some ⟨w2.heap.size, 0, none⟩) 300 (List.replicate 300 0) := by
  intro W' hk b W _
  have hz : (w2.alloc (.cells (madeCells #[.int .u8 0] 300) 5)).heap.size = w2.heap.size + 1 := World.size_alloc ..
  have hb := (hk w2.heap.size (by omega) (by omega) (by omega) (by simp [Value.ownBlock])).trans (blk_new w2 _)
  exact C_blk hb (List.replicate 300 0) (by rw [toList_madeCells_one]; rfl) (by simp)
theorem kgA43 (p : FR) (h : p.id = 0) (hl : p.now.length ≤ 1048576) (ho : p.ops.length ≤ 500000) : KG (nwW false) [p] :=
  ⟨fun q hq => by rw [show nwW false = [(nmA, 0)] from rfl, List.mem_singleton] at hq; subst hq; exact ⟨by decide, by decide, p, fileA p h⟩, fun f hf => by rw [List.mem_singleton] at hf; subst hf; exact ⟨hl, ho⟩⟩
theorem has43 (g1 : Nat) : hasF [fr0 0 g1] (nwW false) 100 (([] : List Int).length) ((0 + 300 : Nat) : Int) = true := by
  have e : usedF [fr0 0 g1] (nwW false) = 0 := by
    show 0 + cnt (lenA [fr0 0 g1] 0) = 0
    rw [lenA_some (fileA (fr0 0 g1) rfl)]
    show 0 + cnt ((0 : Nat) : Int) = 0
    decide
  unfold hasF
  rw [e]
  decide
set_option maxHeartbeats 2000000 in
set_option maxRecDepth 100000 in
theorem awake43_any (w : World) : Calls Try.prog 60 #[] w fun e w' => e = .returned (.bool true) ∧ Below w.heap.size w w' := by
  have hmk : ∀ w : World, (Instr.makeSlice 22 (.int .i64 300) (.int .i64 300)).run Try.prog w = .ok (.slice (some ⟨w.heap.size, 0, none⟩) 300 300) (w.alloc (.cells (madeCells #[.int .u8 0] 300) 5)) := fun w => run_make_row' (P := Try.prog) 22 5 (.int .u8 0) 1 Try.underlying22 infoU8 rfl .i64 .i64 300 (by omega) (by omega) w
  have T1 := Aside0.mk trivial
  obtain ⟨s1, r1, h1⟩ : ∃ s1 r1, readN 1 zr nmA ⟨[], 0, 0⟩ 0 10 = (s1, r1) := ⟨_, _, rfl⟩
  obtain ⟨s2, r2, h2⟩ : ∃ s2 r2, readN 1 zr nmA s1 5 10 = (s2, r2) := ⟨_, _, rfl⟩
  have haw := aw43
  rw [h1] at haw
  simp only at haw
  rw [h2] at haw
  obtain ⟨hr1, hh2, hm2⟩ := haw
  have HH2 := Aside0.mk hh2
  have HM2 := Aside0.mk hm2
  have HR1 := Aside0.mk hr1
  have H1 := Aside0.mk h1
  have H2 := Aside0.mk h2
  have hok0 := OkW.zero (most := mx1 1) (mx1_pos 1)
  have hok1 := (readN_ok (now := zr) (nm := nmA) (by decide) hok0 (at_ := 0) (n := 10) (by omega)).1
  have HOK0 := Aside0.mk hok0
  have HOK1 := Aside0.mk (show OkW (mx1 1) s1 10 by rw [show mx1 1 = 1 from rfl] at hok1 ⊢; rw [h1] at hok1; exact hok1)
  clear h1 h2 hr1 hh2 hm2 hok0 hok1
  go_enter Try.func60, Try.ntmps60
  go_wp2_with (first
    | (go_at_call 61; refine (knew_any w.heap.size (fun _ => True) 100 _ (Nat.le_refl _) (fun _ _ => trivial)).mono ?_; rintro e w1 ⟨g, gd, mn, ms, mf, rfl, hk, hb⟩; have H := Aside0.mk (show DK w1 w.heap.size (fun _ => True) g gd mn ms (.slice none 0 0) 0 [] [] [] mf 0 [] 0 100 0 false false from hk); have HB := Aside0.mk hb; clear hk hb)
    | (go_at_call 62; refine (wd_a H.out).mono ?_; rintro e w2 ⟨rfl, vo1, g1, hk, hl⟩; have hbn := HB.out.trans hl; clear H HB; have H := Aside0.mk hk; have HB := Aside0.mk hbn; clear hk hl hbn)
    | (go_at_call 68; refine (kwrite_ok w.heap.size (fun _ => True) g gd mn ms vo1 1 (nwW false) [] [nrm ⟨0, nmA, ⟨#[]⟩, 0⟩] mf 1 [fr0 0 g1] 1 100 0 false false _ (H.out.below (below_alloc (Below.refl _ _) _)) (kgA43 _ rfl (by simp [fr0]) (by simp [fr0])) (nwW_ris false) (by decide) (by decide) (nwW_sz false) (by decide) (by decide) (by decide) rfl nmA (by decide) 0 (fr0 0 g1) (nwW_get false false (fun h => h)) (fileA _ rfl) 0 (some ⟨w2.heap.size, 0, none⟩) 300 300 (by decide) (by decide) (List.replicate 300 0) (by simp) (by decide) (fun W' h1 h2 => zero_kept3 w2 g g1 (blk_lt H.out.hb) (blk_lt (H.out.hf.hf _ (List.mem_singleton_self _)).hb) W' h1 h2) (.inr (has43 g1))).mono ?_; rintro e w3 ⟨rfl, vn', vo', hk, _, hl⟩; have hbn := (below_alloc HB.out _).trans hl; rw [show setFile [fr0 0 g1] ⟨(fr0 0 g1).id, (fr0 0 g1).g, vn', (fr0 0 g1).vs, vo', (writeF ((fr0 0 g1).now, (fr0 0 g1).ops) 0 (List.replicate 300 0)).1, (fr0 0 g1).safe, (writeF ((fr0 0 g1).now, (fr0 0 g1).ops) 0 (List.replicate 300 0)).2⟩ = [⟨0, g1, vn', nilV, vo', zr, [], (writeF ([], []) 0 (List.replicate 300 0)).2⟩] from setA (fr0 0 g1) vn' nilV vo' zr [] (writeF ([], []) 0 (List.replicate 300 0)).2] at hk; have hwd := (wd_one hk (by decide)).more (Z' := 300) (K' := 10) (Nat.le_of_eq zr_len.1) zr_len.2 (Nat.le_refl _); clear H HB; have HD := Aside0.mk hwd; have HB := Aside0.mk hbn; clear hk hl hbn hwd)
    | (go_at_call 63; refine (wnew_any w.heap.size g 1 (by decide) _ HB.out.size).mono ?_; rintro e w4 ⟨c, mp, rfl, hcs, hmp, hb⟩; have hd := HD.out.below hb; have hbn := HB.out.trans (hb.mono HB.out.size); clear HD HB; have HD := Aside0.mk hd; have HB := Aside0.mk hbn; have HC := Aside0.mk hcs; have HMP := Aside0.mk hmp; clear hd hbn hcs hb hmp)
    | (go_at_call 69; have gate := T1.out; refine (wread_any w.heap.size c g (mx1 1) mp 0 0 ⟨[], 0, 0⟩ _ HC.out HOK0.out nmA (by decide) 0 10 (by decide) (by decide) (by decide) (by decide) zr (wd_tell HD.out (by decide) HMP.out false (fun h => h)) s1 r1 H1.out).mono ?_; rintro e w5 ⟨A5, c5, rfl, _, hcs, hkn, hb⟩; have hd := HD.out.kn hkn HMP.out; have hbn := HB.out.trans hb; clear HD HB HC T1 gate; have HD := Aside0.mk hd; have HB := Aside0.mk hbn; have HC := Aside0.mk hcs; clear hd hbn hcs hb hkn)
    | (go_at_call 69; refine (wread_any w.heap.size c g (mx1 1) mp (0 + 10) 10 s1 _ HC.out HOK1.out nmA (by decide) 5 10 (by decide) (by decide) (by decide) (by decide) zr (wd_tell HD.out (by decide) HMP.out false (fun h => h)) s2 r2 H2.out).mono ?_; rintro e w6 ⟨A6, c6, rfl, _, hcs, hkn, hb⟩; have hbn := HB.out.trans hb; obtain ⟨l9, hci, _⟩ := hcs; have k5 := (blk_cell hci.hb 5).trans (show _ = some (Value.int .i64 1) by rw [← HH2.out]; rfl); have k6 := (blk_cell hci.hb 6).trans (show _ = some (Value.int .i64 1) by rw [← HM2.out]; rfl); clear HB; have HB := Aside0.mk hbn; have e10 := HR1.out; clear hbn hci hb hkn))
  go_ret
  exact ⟨rfl, HB.out⟩
end Go.Proofs.Ytpnbjpkdbiiogaa
