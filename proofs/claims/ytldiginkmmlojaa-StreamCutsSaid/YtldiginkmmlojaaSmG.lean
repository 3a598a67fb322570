/- Streams: the reference's Lines. -/
import Derived.Test.YtldiginkmmlojaaSmF
namespace Go.Proofs.Ytldiginkmmlojaa
set_option linter.unusedVariables false
open Go.RowKit Go.Proofs.YtldiginkmmlojaaW.PrintWords
attribute [local go_sem] mx2 mn2 mxTwo mnTwo

theorem infoLn2 : (Try.prog.info? 133).map (fun i => (i.zero, i.size, i.bytes)) = some (some (.agg #[(.string ⟨#[]⟩), (.int .i64 0)]), 2, 24) := by kernel_rfl
/-- A cut of a row: its address under a letter. -/
theorem cut_midC {α : Type} {P : Program} (d : Kd α) (t e : TypeId) (kl kh : IntKind) {i : TypeInfo} (ht : P.underlying t = some (.slice e)) (hi : P.info? e = some i) (hsz : i.size = d.sz) (A : Option Addr) (n c lo up : Nat) (h1 : lo ≤ up) (h2 : up ≤ n) (hc : n ≤ c) :
    ∃ A3, (∀ W : World, (Instr.slice t (.slice A n c) (some (.int kl (lo : Int))) (some (.int kh (up : Int))) none).run P W = .ok (.slice A3 (up - lo) (c - lo)) W) ∧ ∀ (w : World) (xs : List α), d.C w A n xs → d.C w A3 (up - lo) ((xs.take up).drop lo) := by
  refine ⟨if c = lo then A else A.map (·.add (lo * d.sz)), fun W => ?_, fun w xs h => ?_⟩
  · have h := cut_mid (P := P) t e kl kh ht hi d.sz hsz A n c (lo : Int) (up : Int) (by omega) (by omega) (by omega) hc W
    simpa using h
  · obtain rfl : xs.length = n := h.1
    have h3 := C_takeN h up h2
    have hl : (xs.take up).length = up := by rw [List.length_take]; omega
    have h4 : d.C w A (xs.take up).length (xs.take up) := by rw [hl]; exact h3
    have h5 := Kd.C_drop (c := c) h4 (m := lo) (by omega) (by omega)
    rwa [List.length_drop, hl] at h5

theorem cut_drop {α : Type} {P : Program} (d : Kd α) (t e : TypeId) (kl : IntKind) {i : TypeInfo} (ht : P.underlying t = some (.slice e)) (hi : P.info? e = some i) (hsz : i.size = d.sz) (A : Option Addr) (n c m : Nat) (hm : m ≤ n) (hc : n ≤ c) :
    ∃ A3, (∀ W : World, (Instr.slice t (.slice A n c) (some (.int kl (m : Int))) none none).run P W = .ok (.slice A3 (n - m) (c - m)) W) ∧ ∀ (w : World) (xs : List α), d.C w A n xs → d.C w A3 (n - m) (xs.drop m) := by
  refine ⟨if c = m then A else A.map (·.add (m * d.sz)), fun W => ?_, fun w xs h => ?_⟩
  · have h := cut_from (P := P) t e kl ht hi d.sz hsz A n c (m : Int) (by omega) (by omega) W
    simpa using h
  · obtain rfl : xs.length = n := h.1
    have h1 := Kd.C_drop (c := c) h hm hc
    rwa [List.length_drop] at h1

set_option maxHeartbeats 4000000 in
set_option maxRecDepth 100000 in
theorem rlines_any (A : Option Addr) (n c : Nat) (l : List Int) (m : Int) (w : World) (hr : Kd.C (Kd.int .u8) w A n l) (hc : n ≤ c) (hn : n ≤ 1000000) (hg : ∀ x ∈ l, 0 ≤ x ∧ x ≤ 255) :
    Calls Try.prog 46 #[.slice A n c, .int .i64 m] w fun e w' => ∃ A' c', e = .returned (.tuple #[.slice A' (writeL (mostL m) [] l).2.length c', .string (strOfNums (writeL (mostL m) [] l).1)]) ∧ Kd.C kLn w' A' (writeL (mostL m) [] l).2.length (writeL (mostL m) [] l).2 ∧ Below w.heap.size w w' := by
  obtain rfl : l.length = n := hr.1
  have HR := Aside0.mk hr
  have HG := Aside0.mk hg
  clear hr hg
  obtain ⟨i0, hi0, _, hz1, _⟩ := info_parts infoU8
  by_cases h1 : m < 1
  · have e : mostL m = 1 := by unfold mostL; rw [if_pos h1]
    rw [e]
    go_enter Try.func46, Try.ntmps46
    go_wp2
    go_loopg [6, 7, 8, 9] l.length (fun q v6 v7 v8 v9 wr => ∃ (i f : Nat) (r : List Int) (out : List Ln), v7 = .int .i64 (f : Int) ∧ v8 = .int .i64 (i : Int) ∧ f ≤ i ∧ i ≤ l.length ∧ Aside0 (q = l.length - i) ∧ Aside0 (r = (l.take i).drop f) ∧ out.length ≤ i ∧ Aside0 (((l.take i).foldl (stepW (1)) ([], [])) = (r, out)) ∧ Aside0 (Kd.R kLn 133 wr w.heap.size (fun _ => True) v6 out) ∧ Aside0 (Below w.heap.size w wr))
    case atStart => exact ⟨0, 0, [], [], rfl, rfl, Nat.le_refl _, Nat.zero_le _, ⟨rfl⟩, ⟨rfl⟩, Nat.le_refl _, ⟨rfl⟩, ⟨Kd.R_nil _ _ _ _ _⟩, ⟨Below.refl _ _⟩⟩
    case round =>
      obtain ⟨i, f, r, out, rfl, rfl, hfi, hi, hq, HRE, hlo, HF, HO, HB⟩ := hrel
      by_cases hlt : i < l.length
      · obtain ⟨ad, rfl, hx0⟩ := at_nat HR.out i hlt
        have hx := pw_cell_below HB.out hx0
        have HFS := Aside0.mk (foldW_snoc (1) ([], []) l i hlt)
        have hsn := take_snoc_rd l i hlt
        obtain ⟨x, hxE⟩ : ∃ x, x = rd l (i : Int) := ⟨_, rfl⟩
        rw [← hxE] at hx HFS hsn
        clear hxE hx0
        have hrx : (l.take (i + 1)).drop f = r ++ [x] := by rw [hsn, List.drop_append_of_le_length (by rw [List.length_take]; omega), HRE.out]
        have HRX := Aside0.mk hrx
        have hrl : r.length = i - f := by rw [HRE.out, List.length_drop, List.length_take]; omega
        have HRL := Aside0.mk hrl
        clear hsn hrx hrl
        by_cases h10 : x = 10
        · subst h10
          obtain ⟨A3, hcut, hA3⟩ := cut_midC (P := Try.prog) (Kd.int .u8) 82 5 .i64 .i64 Try.underlying82 hi0 hz1 (some ad) l.length c f (i) (by omega) (by omega) hc
          (try rw [show ((i + 1 : Nat) : Int) = (i : Int) + 1 from by omega] at hcut)
          have hC3 := hA3 _ _ (Kd.C_below HR.out HB.out)
          rw [HRE.out.symm] at hC3
          have hcv := Kd.C_string (P := Try.prog) (c := c - f) Try.underlying82 Try.underlying5 Try.underlying9 hC3
          have HRG := Aside0.mk (show ∀ y ∈ (r : List Int), 0 ≤ y ∧ y ≤ 255 from fun y hy => HG.out y (List.mem_of_mem_take (List.mem_of_mem_drop (by rw [HRE.out.symm]; exact hy : y ∈ (l.take (i)).drop f))))
          have hrlen : (r : List Int).length ≤ 1000000000 := by rw [← HRE.out.symm, List.length_drop, List.length_take]; omega
          clear hA3 hC3
          go_wp2_with (first
            | (go_at_call 75; refine (rcut_any r (fun y hy => HRG.out y hy) (by omega) _).mono ?_; rintro e w1 ⟨rfl, rfl⟩)
            | (at_builtin; refine Kd.R_append kLn (w0 := w) w.heap.size rfl (.tmp 32) (.tmp 41) 85 133 (.agg #[(.string ⟨#[]⟩), (.int .i64 0)]) 24 rfl Try.underlying85 infoLn2 rfl (by decide) (by omega) u6 out ⟨strOfNums (trim r), 1⟩ [.string (strOfNums (trim r)), .int .i64 1] (fun _ => True) (fun _ => False) rfl rfl (kLn_mkM _ _ _ _) (fun _ h => h.elim) (fun _ _ => trivial) HO.out HB.out (below_size HB.out) (by omega) ?_; intro v2 w2 ho2 hbl2 _ _; have HO2 := Aside0.mk ho2; have HB2 := Aside0.mk hbl2; clear ho2 hbl2))
          go_roundg (l.length - (i + 1))
          case measure => have := hq.out; omega
          case rel => exact ⟨i + 1, i + 1, [], _, by go_num, by go_num, Nat.le_refl _, by omega, ⟨rfl⟩, ⟨by rw [List.drop_of_length_le (by rw [List.length_take]; omega)]⟩, by simp; omega, ⟨by rw [HFS.out, HF.out]; exact rfl⟩, HO2, HB2⟩
        · have q10 : (x == 10) = false := beq_eq_false_iff_ne.mpr h10
          by_cases h00 : x = 0
          · subst h00
            obtain ⟨A3, hcut, hA3⟩ := cut_midC (P := Try.prog) (Kd.int .u8) 82 5 .i64 .i64 Try.underlying82 hi0 hz1 (some ad) l.length c f (i) (by omega) (by omega) hc
            (try rw [show ((i + 1 : Nat) : Int) = (i : Int) + 1 from by omega] at hcut)
            have hC3 := hA3 _ _ (Kd.C_below HR.out HB.out)
            rw [HRE.out.symm] at hC3
            have hcv := Kd.C_string (P := Try.prog) (c := c - f) Try.underlying82 Try.underlying5 Try.underlying9 hC3
            have HRG := Aside0.mk (show ∀ y ∈ (r : List Int), 0 ≤ y ∧ y ≤ 255 from fun y hy => HG.out y (List.mem_of_mem_take (List.mem_of_mem_drop (by rw [HRE.out.symm]; exact hy : y ∈ (l.take (i)).drop f))))
            have hrlen : (r : List Int).length ≤ 1000000000 := by rw [← HRE.out.symm, List.length_drop, List.length_take]; omega
            clear hA3 hC3
            go_wp2_with (first
              | (go_at_call 75; refine (rcut_any r (fun y hy => HRG.out y hy) (by omega) _).mono ?_; rintro e w1 ⟨rfl, rfl⟩)
              | (at_builtin; refine Kd.R_append kLn (w0 := w) w.heap.size rfl (.tmp 32) (.tmp 41) 85 133 (.agg #[(.string ⟨#[]⟩), (.int .i64 0)]) 24 rfl Try.underlying85 infoLn2 rfl (by decide) (by omega) u6 out ⟨strOfNums (trim r), 2⟩ [.string (strOfNums (trim r)), .int .i64 2] (fun _ => True) (fun _ => False) rfl rfl (kLn_mkM _ _ _ _) (fun _ h => h.elim) (fun _ _ => trivial) HO.out HB.out (below_size HB.out) (by omega) ?_; intro v2 w2 ho2 hbl2 _ _; have HO2 := Aside0.mk ho2; have HB2 := Aside0.mk hbl2; clear ho2 hbl2))
            go_roundg (l.length - (i + 1))
            case measure => have := hq.out; omega
            case rel => exact ⟨i + 1, i + 1, [], _, by go_num, by go_num, Nat.le_refl _, by omega, ⟨rfl⟩, ⟨by rw [List.drop_of_length_le (by rw [List.length_take]; omega)]⟩, by simp; omega, ⟨by rw [HFS.out, HF.out]; exact rfl⟩, HO2, HB2⟩
          · have q00 : (x == 0) = false := beq_eq_false_iff_ne.mpr h00
            by_cases hfull : 1 ≤ (i : Int) + 1 - (f : Int)
            · have hdf := decide_eq_true hfull
              obtain ⟨A3, hcut, hA3⟩ := cut_midC (P := Try.prog) (Kd.int .u8) 82 5 .i64 .i64 Try.underlying82 hi0 hz1 (some ad) l.length c f ((i + 1)) (by omega) (by omega) hc
              (try rw [show ((i + 1 : Nat) : Int) = (i : Int) + 1 from by omega] at hcut)
              have hC3 := hA3 _ _ (Kd.C_below HR.out HB.out)
              rw [HRX.out] at hC3
              have hcv := Kd.C_string (P := Try.prog) (c := c - f) Try.underlying82 Try.underlying5 Try.underlying9 hC3
              have HRG := Aside0.mk (show ∀ y ∈ ((r ++ [x]) : List Int), 0 ≤ y ∧ y ≤ 255 from fun y hy => HG.out y (List.mem_of_mem_take (List.mem_of_mem_drop (by rw [HRX.out]; exact hy : y ∈ (l.take ((i + 1))).drop f))))
              have hrlen : ((r ++ [x]) : List Int).length ≤ 1000000000 := by rw [← HRX.out, List.length_drop, List.length_take]; omega
              clear hA3 hC3
              go_wp2_with (first
                | (go_at_call 75; refine (rcut_any (r ++ [x]) (fun y hy => HRG.out y hy) (by omega) _).mono ?_; rintro e w1 ⟨rfl, rfl⟩)
                | (at_builtin; refine Kd.R_append kLn (w0 := w) w.heap.size rfl (.tmp 51) (.tmp 60) 85 133 (.agg #[(.string ⟨#[]⟩), (.int .i64 0)]) 24 rfl Try.underlying85 infoLn2 rfl (by decide) (by omega) u6 out ⟨strOfNums (trim (r ++ [x])), 3⟩ [.string (strOfNums (trim (r ++ [x]))), .int .i64 3] (fun _ => True) (fun _ => False) rfl rfl (kLn_mkM _ _ _ _) (fun _ h => h.elim) (fun _ _ => trivial) HO.out HB.out (below_size HB.out) (by omega) ?_; intro v2 w2 ho2 hbl2 _ _; have HO2 := Aside0.mk ho2; have HB2 := Aside0.mk hbl2; clear ho2 hbl2))
              go_roundg (l.length - (i + 1))
              case measure => have := hq.out; omega
              case rel => exact ⟨i + 1, i + 1, [], _, by go_num, by go_num, Nat.le_refl _, by omega, ⟨rfl⟩, ⟨by rw [List.drop_of_length_le (by rw [List.length_take]; omega)]⟩, by simp; omega, ⟨by rw [HFS.out, HF.out]; exact (by unfold stepW; rw [if_neg h10, if_neg h00, if_pos (by show 1 ≤ ((r.length + 1 : Nat) : Int); have := HRL.out; omega)])⟩, HO2, HB2⟩
            · have hdf := decide_eq_false hfull
              go_wp2_with fail
              go_roundg (l.length - (i + 1))
              case measure => have := hq.out; omega
              case rel => exact ⟨i + 1, f, r ++ [x], out, rfl, by go_num, by omega, by omega, ⟨rfl⟩, ⟨HRX.out.symm⟩, by omega, ⟨by rw [HFS.out, HF.out]; unfold stepW; rw [if_neg h10, if_neg h00, if_neg (by show ¬ 1 ≤ ((r.length + 1 : Nat) : Int); have := HRL.out; omega)]⟩, HO, HB⟩
      · obtain rfl : i = l.length := by omega
        obtain ⟨A3, hcut0, hA3⟩ := cut_drop (P := Try.prog) (Kd.int .u8) 82 5 .i64 Try.underlying82 hi0 hz1 A l.length c f (by omega) hc
        have hC3 := hA3 _ _ (Kd.C_below HR.out HB.out)
        rw [show l.drop f = r by rw [HRE.out, List.take_length]] at hC3
        have hcv : ∀ m, (convert 82 9 (.slice A3 (l.length - f) (c - f))).run Try.prog (wr.drewN m) = .ok (.string (strOfNums r)) (wr.drewN m) := fun m => Kd.C_string Try.underlying82 Try.underlying5 Try.underlying9 (Kd.C_drewN hC3 m)
        clear hA3 hC3
        go_wp2_with fail
        go_quiet (fail)
        go_wp2_with fail
        obtain ⟨A6, c6, rfl, _, hC6⟩ := Kd.R_reads HO.out
        have e2 : writeL (1) [] l = (r, out) := by rw [← HF.out, List.take_length]; rfl
        go_ret2
        rw [e2]
        exact ⟨_, _, rfl, Kd.C_drewN hC6 _, pw_below_drewN HB.out _⟩
  · by_cases h2 : 512 < m
    · have e : mostL m = 512 := by unfold mostL; rw [if_neg h1, if_pos h2]
      rw [e]
      go_enter Try.func46, Try.ntmps46
      go_wp2
      go_loopg [6, 7, 8, 9] l.length (fun q v6 v7 v8 v9 wr => ∃ (i f : Nat) (r : List Int) (out : List Ln), v7 = .int .i64 (f : Int) ∧ v8 = .int .i64 (i : Int) ∧ f ≤ i ∧ i ≤ l.length ∧ Aside0 (q = l.length - i) ∧ Aside0 (r = (l.take i).drop f) ∧ out.length ≤ i ∧ Aside0 (((l.take i).foldl (stepW (512)) ([], [])) = (r, out)) ∧ Aside0 (Kd.R kLn 133 wr w.heap.size (fun _ => True) v6 out) ∧ Aside0 (Below w.heap.size w wr))
      case atStart => exact ⟨0, 0, [], [], rfl, rfl, Nat.le_refl _, Nat.zero_le _, ⟨rfl⟩, ⟨rfl⟩, Nat.le_refl _, ⟨rfl⟩, ⟨Kd.R_nil _ _ _ _ _⟩, ⟨Below.refl _ _⟩⟩
      case round =>
        obtain ⟨i, f, r, out, rfl, rfl, hfi, hi, hq, HRE, hlo, HF, HO, HB⟩ := hrel
        by_cases hlt : i < l.length
        · obtain ⟨ad, rfl, hx0⟩ := at_nat HR.out i hlt
          have hx := pw_cell_below HB.out hx0
          have HFS := Aside0.mk (foldW_snoc (512) ([], []) l i hlt)
          have hsn := take_snoc_rd l i hlt
          obtain ⟨x, hxE⟩ : ∃ x, x = rd l (i : Int) := ⟨_, rfl⟩
          rw [← hxE] at hx HFS hsn
          clear hxE hx0
          have hrx : (l.take (i + 1)).drop f = r ++ [x] := by rw [hsn, List.drop_append_of_le_length (by rw [List.length_take]; omega), HRE.out]
          have HRX := Aside0.mk hrx
          have hrl : r.length = i - f := by rw [HRE.out, List.length_drop, List.length_take]; omega
          have HRL := Aside0.mk hrl
          clear hsn hrx hrl
          by_cases h10 : x = 10
          · subst h10
            obtain ⟨A3, hcut, hA3⟩ := cut_midC (P := Try.prog) (Kd.int .u8) 82 5 .i64 .i64 Try.underlying82 hi0 hz1 (some ad) l.length c f (i) (by omega) (by omega) hc
            (try rw [show ((i + 1 : Nat) : Int) = (i : Int) + 1 from by omega] at hcut)
            have hC3 := hA3 _ _ (Kd.C_below HR.out HB.out)
            rw [HRE.out.symm] at hC3
            have hcv := Kd.C_string (P := Try.prog) (c := c - f) Try.underlying82 Try.underlying5 Try.underlying9 hC3
            have HRG := Aside0.mk (show ∀ y ∈ (r : List Int), 0 ≤ y ∧ y ≤ 255 from fun y hy => HG.out y (List.mem_of_mem_take (List.mem_of_mem_drop (by rw [HRE.out.symm]; exact hy : y ∈ (l.take (i)).drop f))))
            have hrlen : (r : List Int).length ≤ 1000000000 := by rw [← HRE.out.symm, List.length_drop, List.length_take]; omega
            clear hA3 hC3
            go_wp2_with (first
              | (go_at_call 75; refine (rcut_any r (fun y hy => HRG.out y hy) (by omega) _).mono ?_; rintro e w1 ⟨rfl, rfl⟩)
              | (at_builtin; refine Kd.R_append kLn (w0 := w) w.heap.size rfl (.tmp 32) (.tmp 41) 85 133 (.agg #[(.string ⟨#[]⟩), (.int .i64 0)]) 24 rfl Try.underlying85 infoLn2 rfl (by decide) (by omega) u6 out ⟨strOfNums (trim r), 1⟩ [.string (strOfNums (trim r)), .int .i64 1] (fun _ => True) (fun _ => False) rfl rfl (kLn_mkM _ _ _ _) (fun _ h => h.elim) (fun _ _ => trivial) HO.out HB.out (below_size HB.out) (by omega) ?_; intro v2 w2 ho2 hbl2 _ _; have HO2 := Aside0.mk ho2; have HB2 := Aside0.mk hbl2; clear ho2 hbl2))
            go_roundg (l.length - (i + 1))
            case measure => have := hq.out; omega
            case rel => exact ⟨i + 1, i + 1, [], _, by go_num, by go_num, Nat.le_refl _, by omega, ⟨rfl⟩, ⟨by rw [List.drop_of_length_le (by rw [List.length_take]; omega)]⟩, by simp; omega, ⟨by rw [HFS.out, HF.out]; exact rfl⟩, HO2, HB2⟩
          · have q10 : (x == 10) = false := beq_eq_false_iff_ne.mpr h10
            by_cases h00 : x = 0
            · subst h00
              obtain ⟨A3, hcut, hA3⟩ := cut_midC (P := Try.prog) (Kd.int .u8) 82 5 .i64 .i64 Try.underlying82 hi0 hz1 (some ad) l.length c f (i) (by omega) (by omega) hc
              (try rw [show ((i + 1 : Nat) : Int) = (i : Int) + 1 from by omega] at hcut)
              have hC3 := hA3 _ _ (Kd.C_below HR.out HB.out)
              rw [HRE.out.symm] at hC3
              have hcv := Kd.C_string (P := Try.prog) (c := c - f) Try.underlying82 Try.underlying5 Try.underlying9 hC3
              have HRG := Aside0.mk (show ∀ y ∈ (r : List Int), 0 ≤ y ∧ y ≤ 255 from fun y hy => HG.out y (List.mem_of_mem_take (List.mem_of_mem_drop (by rw [HRE.out.symm]; exact hy : y ∈ (l.take (i)).drop f))))
              have hrlen : (r : List Int).length ≤ 1000000000 := by rw [← HRE.out.symm, List.length_drop, List.length_take]; omega
              clear hA3 hC3
              go_wp2_with (first
                | (go_at_call 75; refine (rcut_any r (fun y hy => HRG.out y hy) (by omega) _).mono ?_; rintro e w1 ⟨rfl, rfl⟩)
                | (at_builtin; refine Kd.R_append kLn (w0 := w) w.heap.size rfl (.tmp 32) (.tmp 41) 85 133 (.agg #[(.string ⟨#[]⟩), (.int .i64 0)]) 24 rfl Try.underlying85 infoLn2 rfl (by decide) (by omega) u6 out ⟨strOfNums (trim r), 2⟩ [.string (strOfNums (trim r)), .int .i64 2] (fun _ => True) (fun _ => False) rfl rfl (kLn_mkM _ _ _ _) (fun _ h => h.elim) (fun _ _ => trivial) HO.out HB.out (below_size HB.out) (by omega) ?_; intro v2 w2 ho2 hbl2 _ _; have HO2 := Aside0.mk ho2; have HB2 := Aside0.mk hbl2; clear ho2 hbl2))
              go_roundg (l.length - (i + 1))
              case measure => have := hq.out; omega
              case rel => exact ⟨i + 1, i + 1, [], _, by go_num, by go_num, Nat.le_refl _, by omega, ⟨rfl⟩, ⟨by rw [List.drop_of_length_le (by rw [List.length_take]; omega)]⟩, by simp; omega, ⟨by rw [HFS.out, HF.out]; exact rfl⟩, HO2, HB2⟩
            · have q00 : (x == 0) = false := beq_eq_false_iff_ne.mpr h00
              by_cases hfull : 512 ≤ (i : Int) + 1 - (f : Int)
              · have hdf := decide_eq_true hfull
                obtain ⟨A3, hcut, hA3⟩ := cut_midC (P := Try.prog) (Kd.int .u8) 82 5 .i64 .i64 Try.underlying82 hi0 hz1 (some ad) l.length c f ((i + 1)) (by omega) (by omega) hc
                (try rw [show ((i + 1 : Nat) : Int) = (i : Int) + 1 from by omega] at hcut)
                have hC3 := hA3 _ _ (Kd.C_below HR.out HB.out)
                rw [HRX.out] at hC3
                have hcv := Kd.C_string (P := Try.prog) (c := c - f) Try.underlying82 Try.underlying5 Try.underlying9 hC3
                have HRG := Aside0.mk (show ∀ y ∈ ((r ++ [x]) : List Int), 0 ≤ y ∧ y ≤ 255 from fun y hy => HG.out y (List.mem_of_mem_take (List.mem_of_mem_drop (by rw [HRX.out]; exact hy : y ∈ (l.take ((i + 1))).drop f))))
                have hrlen : ((r ++ [x]) : List Int).length ≤ 1000000000 := by rw [← HRX.out, List.length_drop, List.length_take]; omega
                clear hA3 hC3
                go_wp2_with (first
                  | (go_at_call 75; refine (rcut_any (r ++ [x]) (fun y hy => HRG.out y hy) (by omega) _).mono ?_; rintro e w1 ⟨rfl, rfl⟩)
                  | (at_builtin; refine Kd.R_append kLn (w0 := w) w.heap.size rfl (.tmp 51) (.tmp 60) 85 133 (.agg #[(.string ⟨#[]⟩), (.int .i64 0)]) 24 rfl Try.underlying85 infoLn2 rfl (by decide) (by omega) u6 out ⟨strOfNums (trim (r ++ [x])), 3⟩ [.string (strOfNums (trim (r ++ [x]))), .int .i64 3] (fun _ => True) (fun _ => False) rfl rfl (kLn_mkM _ _ _ _) (fun _ h => h.elim) (fun _ _ => trivial) HO.out HB.out (below_size HB.out) (by omega) ?_; intro v2 w2 ho2 hbl2 _ _; have HO2 := Aside0.mk ho2; have HB2 := Aside0.mk hbl2; clear ho2 hbl2))
                go_roundg (l.length - (i + 1))
                case measure => have := hq.out; omega
                case rel => exact ⟨i + 1, i + 1, [], _, by go_num, by go_num, Nat.le_refl _, by omega, ⟨rfl⟩, ⟨by rw [List.drop_of_length_le (by rw [List.length_take]; omega)]⟩, by simp; omega, ⟨by rw [HFS.out, HF.out]; exact (by unfold stepW; rw [if_neg h10, if_neg h00, if_pos (by show 512 ≤ ((r.length + 1 : Nat) : Int); have := HRL.out; omega)])⟩, HO2, HB2⟩
              · have hdf := decide_eq_false hfull
                go_wp2_with fail
                go_roundg (l.length - (i + 1))
                case measure => have := hq.out; omega
                case rel => exact ⟨i + 1, f, r ++ [x], out, rfl, by go_num, by omega, by omega, ⟨rfl⟩, ⟨HRX.out.symm⟩, by omega, ⟨by rw [HFS.out, HF.out]; unfold stepW; rw [if_neg h10, if_neg h00, if_neg (by show ¬ 512 ≤ ((r.length + 1 : Nat) : Int); have := HRL.out; omega)]⟩, HO, HB⟩
        · obtain rfl : i = l.length := by omega
          obtain ⟨A3, hcut0, hA3⟩ := cut_drop (P := Try.prog) (Kd.int .u8) 82 5 .i64 Try.underlying82 hi0 hz1 A l.length c f (by omega) hc
          have hC3 := hA3 _ _ (Kd.C_below HR.out HB.out)
          rw [show l.drop f = r by rw [HRE.out, List.take_length]] at hC3
          have hcv : ∀ m, (convert 82 9 (.slice A3 (l.length - f) (c - f))).run Try.prog (wr.drewN m) = .ok (.string (strOfNums r)) (wr.drewN m) := fun m => Kd.C_string Try.underlying82 Try.underlying5 Try.underlying9 (Kd.C_drewN hC3 m)
          clear hA3 hC3
          go_wp2_with fail
          go_quiet (fail)
          go_wp2_with fail
          obtain ⟨A6, c6, rfl, _, hC6⟩ := Kd.R_reads HO.out
          have e2 : writeL (512) [] l = (r, out) := by rw [← HF.out, List.take_length]; rfl
          go_ret2
          rw [e2]
          exact ⟨_, _, rfl, Kd.C_drewN hC6 _, pw_below_drewN HB.out _⟩
    · have e : mostL m = m := by unfold mostL; rw [if_neg h1, if_neg h2]
      rw [e]
      go_enter Try.func46, Try.ntmps46
      go_wp2
      go_loopg [6, 7, 8, 9] l.length (fun q v6 v7 v8 v9 wr => ∃ (i f : Nat) (r : List Int) (out : List Ln), v7 = .int .i64 (f : Int) ∧ v8 = .int .i64 (i : Int) ∧ f ≤ i ∧ i ≤ l.length ∧ Aside0 (q = l.length - i) ∧ Aside0 (r = (l.take i).drop f) ∧ out.length ≤ i ∧ Aside0 (((l.take i).foldl (stepW (m)) ([], [])) = (r, out)) ∧ Aside0 (Kd.R kLn 133 wr w.heap.size (fun _ => True) v6 out) ∧ Aside0 (Below w.heap.size w wr))
      case atStart => exact ⟨0, 0, [], [], rfl, rfl, Nat.le_refl _, Nat.zero_le _, ⟨rfl⟩, ⟨rfl⟩, Nat.le_refl _, ⟨rfl⟩, ⟨Kd.R_nil _ _ _ _ _⟩, ⟨Below.refl _ _⟩⟩
      case round =>
        obtain ⟨i, f, r, out, rfl, rfl, hfi, hi, hq, HRE, hlo, HF, HO, HB⟩ := hrel
        by_cases hlt : i < l.length
        · obtain ⟨ad, rfl, hx0⟩ := at_nat HR.out i hlt
          have hx := pw_cell_below HB.out hx0
          have HFS := Aside0.mk (foldW_snoc (m) ([], []) l i hlt)
          have hsn := take_snoc_rd l i hlt
          obtain ⟨x, hxE⟩ : ∃ x, x = rd l (i : Int) := ⟨_, rfl⟩
          rw [← hxE] at hx HFS hsn
          clear hxE hx0
          have hrx : (l.take (i + 1)).drop f = r ++ [x] := by rw [hsn, List.drop_append_of_le_length (by rw [List.length_take]; omega), HRE.out]
          have HRX := Aside0.mk hrx
          have hrl : r.length = i - f := by rw [HRE.out, List.length_drop, List.length_take]; omega
          have HRL := Aside0.mk hrl
          clear hsn hrx hrl
          by_cases h10 : x = 10
          · subst h10
            obtain ⟨A3, hcut, hA3⟩ := cut_midC (P := Try.prog) (Kd.int .u8) 82 5 .i64 .i64 Try.underlying82 hi0 hz1 (some ad) l.length c f (i) (by omega) (by omega) hc
            (try rw [show ((i + 1 : Nat) : Int) = (i : Int) + 1 from by omega] at hcut)
            have hC3 := hA3 _ _ (Kd.C_below HR.out HB.out)
            rw [HRE.out.symm] at hC3
            have hcv := Kd.C_string (P := Try.prog) (c := c - f) Try.underlying82 Try.underlying5 Try.underlying9 hC3
            have HRG := Aside0.mk (show ∀ y ∈ (r : List Int), 0 ≤ y ∧ y ≤ 255 from fun y hy => HG.out y (List.mem_of_mem_take (List.mem_of_mem_drop (by rw [HRE.out.symm]; exact hy : y ∈ (l.take (i)).drop f))))
            have hrlen : (r : List Int).length ≤ 1000000000 := by rw [← HRE.out.symm, List.length_drop, List.length_take]; omega
            clear hA3 hC3
            go_wp2_with (first
              | (go_at_call 75; refine (rcut_any r (fun y hy => HRG.out y hy) (by omega) _).mono ?_; rintro e w1 ⟨rfl, rfl⟩)
              | (at_builtin; refine Kd.R_append kLn (w0 := w) w.heap.size rfl (.tmp 32) (.tmp 41) 85 133 (.agg #[(.string ⟨#[]⟩), (.int .i64 0)]) 24 rfl Try.underlying85 infoLn2 rfl (by decide) (by omega) u6 out ⟨strOfNums (trim r), 1⟩ [.string (strOfNums (trim r)), .int .i64 1] (fun _ => True) (fun _ => False) rfl rfl (kLn_mkM _ _ _ _) (fun _ h => h.elim) (fun _ _ => trivial) HO.out HB.out (below_size HB.out) (by omega) ?_; intro v2 w2 ho2 hbl2 _ _; have HO2 := Aside0.mk ho2; have HB2 := Aside0.mk hbl2; clear ho2 hbl2))
            go_roundg (l.length - (i + 1))
            case measure => have := hq.out; omega
            case rel => exact ⟨i + 1, i + 1, [], _, by go_num, by go_num, Nat.le_refl _, by omega, ⟨rfl⟩, ⟨by rw [List.drop_of_length_le (by rw [List.length_take]; omega)]⟩, by simp; omega, ⟨by rw [HFS.out, HF.out]; exact rfl⟩, HO2, HB2⟩
          · have q10 : (x == 10) = false := beq_eq_false_iff_ne.mpr h10
            by_cases h00 : x = 0
            · subst h00
              obtain ⟨A3, hcut, hA3⟩ := cut_midC (P := Try.prog) (Kd.int .u8) 82 5 .i64 .i64 Try.underlying82 hi0 hz1 (some ad) l.length c f (i) (by omega) (by omega) hc
              (try rw [show ((i + 1 : Nat) : Int) = (i : Int) + 1 from by omega] at hcut)
              have hC3 := hA3 _ _ (Kd.C_below HR.out HB.out)
              rw [HRE.out.symm] at hC3
              have hcv := Kd.C_string (P := Try.prog) (c := c - f) Try.underlying82 Try.underlying5 Try.underlying9 hC3
              have HRG := Aside0.mk (show ∀ y ∈ (r : List Int), 0 ≤ y ∧ y ≤ 255 from fun y hy => HG.out y (List.mem_of_mem_take (List.mem_of_mem_drop (by rw [HRE.out.symm]; exact hy : y ∈ (l.take (i)).drop f))))
              have hrlen : (r : List Int).length ≤ 1000000000 := by rw [← HRE.out.symm, List.length_drop, List.length_take]; omega
              clear hA3 hC3
              go_wp2_with (first
                | (go_at_call 75; refine (rcut_any r (fun y hy => HRG.out y hy) (by omega) _).mono ?_; rintro e w1 ⟨rfl, rfl⟩)
                | (at_builtin; refine Kd.R_append kLn (w0 := w) w.heap.size rfl (.tmp 32) (.tmp 41) 85 133 (.agg #[(.string ⟨#[]⟩), (.int .i64 0)]) 24 rfl Try.underlying85 infoLn2 rfl (by decide) (by omega) u6 out ⟨strOfNums (trim r), 2⟩ [.string (strOfNums (trim r)), .int .i64 2] (fun _ => True) (fun _ => False) rfl rfl (kLn_mkM _ _ _ _) (fun _ h => h.elim) (fun _ _ => trivial) HO.out HB.out (below_size HB.out) (by omega) ?_; intro v2 w2 ho2 hbl2 _ _; have HO2 := Aside0.mk ho2; have HB2 := Aside0.mk hbl2; clear ho2 hbl2))
              go_roundg (l.length - (i + 1))
              case measure => have := hq.out; omega
              case rel => exact ⟨i + 1, i + 1, [], _, by go_num, by go_num, Nat.le_refl _, by omega, ⟨rfl⟩, ⟨by rw [List.drop_of_length_le (by rw [List.length_take]; omega)]⟩, by simp; omega, ⟨by rw [HFS.out, HF.out]; exact rfl⟩, HO2, HB2⟩
            · have q00 : (x == 0) = false := beq_eq_false_iff_ne.mpr h00
              by_cases hfull : m ≤ (i : Int) + 1 - (f : Int)
              · have hdf := decide_eq_true hfull
                obtain ⟨A3, hcut, hA3⟩ := cut_midC (P := Try.prog) (Kd.int .u8) 82 5 .i64 .i64 Try.underlying82 hi0 hz1 (some ad) l.length c f ((i + 1)) (by omega) (by omega) hc
                (try rw [show ((i + 1 : Nat) : Int) = (i : Int) + 1 from by omega] at hcut)
                have hC3 := hA3 _ _ (Kd.C_below HR.out HB.out)
                rw [HRX.out] at hC3
                have hcv := Kd.C_string (P := Try.prog) (c := c - f) Try.underlying82 Try.underlying5 Try.underlying9 hC3
                have HRG := Aside0.mk (show ∀ y ∈ ((r ++ [x]) : List Int), 0 ≤ y ∧ y ≤ 255 from fun y hy => HG.out y (List.mem_of_mem_take (List.mem_of_mem_drop (by rw [HRX.out]; exact hy : y ∈ (l.take ((i + 1))).drop f))))
                have hrlen : ((r ++ [x]) : List Int).length ≤ 1000000000 := by rw [← HRX.out, List.length_drop, List.length_take]; omega
                clear hA3 hC3
                go_wp2_with (first
                  | (go_at_call 75; refine (rcut_any (r ++ [x]) (fun y hy => HRG.out y hy) (by omega) _).mono ?_; rintro e w1 ⟨rfl, rfl⟩)
                  | (at_builtin; refine Kd.R_append kLn (w0 := w) w.heap.size rfl (.tmp 51) (.tmp 60) 85 133 (.agg #[(.string ⟨#[]⟩), (.int .i64 0)]) 24 rfl Try.underlying85 infoLn2 rfl (by decide) (by omega) u6 out ⟨strOfNums (trim (r ++ [x])), 3⟩ [.string (strOfNums (trim (r ++ [x]))), .int .i64 3] (fun _ => True) (fun _ => False) rfl rfl (kLn_mkM _ _ _ _) (fun _ h => h.elim) (fun _ _ => trivial) HO.out HB.out (below_size HB.out) (by omega) ?_; intro v2 w2 ho2 hbl2 _ _; have HO2 := Aside0.mk ho2; have HB2 := Aside0.mk hbl2; clear ho2 hbl2))
                go_roundg (l.length - (i + 1))
                case measure => have := hq.out; omega
                case rel => exact ⟨i + 1, i + 1, [], _, by go_num, by go_num, Nat.le_refl _, by omega, ⟨rfl⟩, ⟨by rw [List.drop_of_length_le (by rw [List.length_take]; omega)]⟩, by simp; omega, ⟨by rw [HFS.out, HF.out]; exact (by unfold stepW; rw [if_neg h10, if_neg h00, if_pos (by show m ≤ ((r.length + 1 : Nat) : Int); have := HRL.out; omega)])⟩, HO2, HB2⟩
              · have hdf := decide_eq_false hfull
                go_wp2_with fail
                go_roundg (l.length - (i + 1))
                case measure => have := hq.out; omega
                case rel => exact ⟨i + 1, f, r ++ [x], out, rfl, by go_num, by omega, by omega, ⟨rfl⟩, ⟨HRX.out.symm⟩, by omega, ⟨by rw [HFS.out, HF.out]; unfold stepW; rw [if_neg h10, if_neg h00, if_neg (by show ¬ m ≤ ((r.length + 1 : Nat) : Int); have := HRL.out; omega)]⟩, HO, HB⟩
        · obtain rfl : i = l.length := by omega
          obtain ⟨A3, hcut0, hA3⟩ := cut_drop (P := Try.prog) (Kd.int .u8) 82 5 .i64 Try.underlying82 hi0 hz1 A l.length c f (by omega) hc
          have hC3 := hA3 _ _ (Kd.C_below HR.out HB.out)
          rw [show l.drop f = r by rw [HRE.out, List.take_length]] at hC3
          have hcv : ∀ m, (convert 82 9 (.slice A3 (l.length - f) (c - f))).run Try.prog (wr.drewN m) = .ok (.string (strOfNums r)) (wr.drewN m) := fun m => Kd.C_string Try.underlying82 Try.underlying5 Try.underlying9 (Kd.C_drewN hC3 m)
          clear hA3 hC3
          go_wp2_with fail
          go_quiet (fail)
          go_wp2_with fail
          obtain ⟨A6, c6, rfl, _, hC6⟩ := Kd.R_reads HO.out
          have e2 : writeL (m) [] l = (r, out) := by rw [← HF.out, List.take_length]; rfl
          go_ret2
          rw [e2]
          exact ⟨_, _, rfl, Kd.C_drewN hC6 _, pw_below_drewN HB.out _⟩
end Go.Proofs.Ytldiginkmmlojaa
