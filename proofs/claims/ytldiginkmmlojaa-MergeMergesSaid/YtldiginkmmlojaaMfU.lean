/- The walk of the law MergeMerges: it answers true. -/
import Derived.Test.YtldiginkmmlojaaMfT
import Derived.Test.YtldiginkmmlojaaMfE
import Derived.DataShut
namespace Go.Proofs.Ytldiginkmmlojaa
set_option linter.unusedVariables false
set_option linter.unusedSimpArgs false
open Go.RowKit Go.Proofs.YtldiginkmmlojaaW.PrintWords

theorem below_eq1 {w a : World} {o : Obj} (h : a = w.alloc o) : Below w.heap.size w a := by rw [h]; exact below_alloc (Below.refl _ _) _
theorem below_eq2 {w a : World} {o p : Obj} (h : a = (w.alloc o).alloc p) : Below w.heap.size w a := by rw [h]; exact (below_alloc (Below.refl _ _) _).alloc (by simp) _
theorem cell_eq1 {w a : World} {u : Value} {t : TypeId} (h : a = w.alloc (.cells #[u] t)) : a.cell? ⟨w.heap.size, 0, none⟩ = some u := by rw [h]; exact (blk_cell (blk_new w _) 0).trans rfl
theorem cell_eq2a {w a : World} {u : Value} {t : TypeId} {p : Obj} (h : a = (w.alloc (.cells #[u] t)).alloc p) : a.cell? ⟨w.heap.size, 0, none⟩ = some u := by rw [h]; exact cell_al _ ((blk_cell (blk_new w _) 0).trans rfl)
theorem cell_eq2b {w a : World} {u : Value} {t : TypeId} {o : Obj} (h : a = (w.alloc o).alloc (.cells #[u] t)) : a.cell? ⟨w.heap.size + 1, 0, none⟩ = some u := by
  have hn := blk_new (w.alloc o) (.cells #[u] t)
  rw [World.size_alloc] at hn
  rw [h]
  exact (blk_cell hn 0).trans rfl
theorem all_valueN (w : World) : Calls Try.prog 42 #[.pointer none] w fun e w' => e = .returned (.func (.func 71) #[] #[.pointer (some ⟨w.heap.size, 0, none⟩)]) ∧ w' = w.alloc (.cells #[.pointer none] 67) := by
  go_enter Try.func42, Try.ntmps42
  go_wp2
  go_ret
  exact ⟨rfl, rfl⟩
theorem flat_len : ∀ L : List (List Int), (∀ l ∈ L, l.length ≤ 100) → L.flatten.length ≤ 100 * L.length
  | [], _ => Nat.zero_le _
  | l :: L, h => by
    have h1 := flat_len L (fun x hx => h x (List.mem_cons_of_mem _ hx))
    have h2 := h l (List.mem_cons_self ..)
    rw [List.flatten_cons, List.length_append, List.length_cons]
    omega
theorem liT_law (us : List (List Int)) (i : Nat) (hu : ∀ l ∈ us, ∀ y ∈ l, 0 ≤ y ∧ y ≤ 65535) : ∀ l ∈ liT us i, RiseT l ∧ (∀ y ∈ l, 0 ≤ y ∧ y ≤ 1000000) ∧ l.length ≤ 100 := fun l hl => by
  obtain ⟨r, hr, rfl⟩ := List.mem_map.1 hl
  obtain ⟨a1, a2, a3⟩ := sortT_law (r.take 100) [] List.Pairwise.nil
  refine ⟨a1, fun y hy => ?_, ?_⟩
  · rcases a2 y hy with h | h
    · cases h
    · have := hu r (List.take_subset _ _ hr) y (List.take_subset _ _ h)
      omega
  · show ((r.take 100).foldl insS []).length ≤ 100
    rw [a3, List.length_take, List.length_nil]
    omega
set_option maxRecDepth 100000 in
set_option maxHeartbeats 4000000 in
theorem mmerge_walk (A : Option Addr) (cp : Nat) (us : List (List Int)) (z : Int) (w : World) (hC : Kd.C kUU w A us.length us) (hcap : us.length ≤ cp) (hg : ∀ x ∈ us, ∀ y ∈ x, (Lit.int .u16 y).wf = true) (z0 : 0 ≤ z) (z1 : z ≤ 65535) :
    Calls Try.prog 7 #[.slice A us.length cp, .int .u16 z] w fun e w' => e = .returned (.bool true) ∧ Below w.heap.size w w' := by
  have HC := Aside0.mk hC
  have HV := Aside0.mk (show ∀ l ∈ us, ∀ y ∈ l, 0 ≤ y ∧ y ≤ 65535 from fun l hl y hy => by
    have := (Lit.wf_int_iff .u16 y).1 (hg l hl y hy)
    exact ⟨this.1, this.2⟩)
  have HB := Aside0.mk (Below.refl w.heap.size w)
  obtain ⟨L, hL⟩ : ∃ L, L = liT us (min us.length 20) := ⟨_, rfl⟩
  have HLE := Aside0.mk hL.symm
  have hml : min us.length 20 = L.length := by rw [hL, liT_len us _ (by omega)]
  have HML := Aside0.mk hml
  have hLn : L.length ≤ 20 := by omega
  have HLL := Aside0.mk (show ∀ l ∈ L, RiseT l ∧ (∀ y ∈ l, 0 ≤ y ∧ y ≤ 1000000) ∧ l.length ≤ 100 by rw [hL]; exact liT_law us _ HV.out)
  have HLG := Aside0.mk (show ∀ i, i < L.length → (L.getD i []).length ≤ 1000000 from fun i hi => Nat.le_trans (HLL.out _ (List.mem_of_getElem? (show L[i]? = some (L.getD i []) by rw [List.getD_eq_getElem?_getD, List.getElem?_eq_getElem hi]; rfl))).2.2 (by decide))
  have HFL := Aside0.mk (show L.flatten.length ≤ 2000 from Nat.le_trans (flat_len L fun l hl => (HLL.out l hl).2.2) (by omega))
  obtain ⟨ws, hws⟩ : ∃ ws, ws = L.flatten.foldl putT [] := ⟨_, rfl⟩
  have HWS := Aside0.mk hws.symm
  have HAW := Aside0.mk (show allF cT (totF L) L = ws by rw [hws]; exact all_want L _ (fun l hl => (HLL.out l hl).1) (Nat.le_refl _))
  have HWB := Aside0.mk (show ∀ y ∈ ws, 0 ≤ y ∧ y ≤ 1000000 by
    rw [hws]
    intro y hy
    rcases putT_foldmem _ _ _ hy with h | h
    · cases h
    · obtain ⟨l, hl, h2⟩ := List.mem_flatten.1 h
      exact (HLL.out l hl).2.1 y h2)
  have hwl : ws.length ≤ 2000 := by
    have := putT_foldlen L.flatten []
    rw [← hws] at this
    have := HFL.out
    simp at *
    omega
  clear hC hg hL hws hml
  go_enter Try.func7, Try.ntmps7
  by_cases hok : us.length ≤ 20 ∧ cnT us (min us.length 20) ≤ 200
  · have HOK := Aside0.mk (decide_eq_true hok)
    clear hok
    go_wp2_with (first
      | (go_at_call 35; refine (awake25_any _).mono ?_; rintro e wa ⟨rfl, hb⟩; have hbn := below_step HB.out hb; clear HB; have HB := Aside0.mk hbn; clear hb hbn)
      | (go_at_call 36; refine (lists25_any A cp us _ (Kd.C_below HC.out HB.out) HV.out).mono ?_; rintro e w2 ⟨A1, c1, rfl, hr, hb⟩; rw [HLE.out, HML.out] at hr; rw [HOK.out, HML.out]; have hbn := below_step HB.out hb; clear HB; have HB := Aside0.mk hbn; have HR1 := Aside0.mk hr; clear hb hbn hr)
      | (go_at_call 37; refine (of_any 38 A1 L.length c1 L _ (C_own HR1.out) (by omega) HLG.out).mono ?_; rintro e w3 ⟨g, A5, c5, rfl, hg, hlm, hb⟩; have hbn := below_step HB.out hb; have hr := Kd.R_below HR1.out hb; clear HB HR1; have HB := Aside0.mk hbn; have HR1 := Aside0.mk hr; have HLM := Aside0.mk hlm; clear hb hbn hr hlm hg)
      | (go_at_call 39; refine (all25_any A1 c1 L _ (C_own HR1.out) (by omega) (by have := HFL.out; omega) (fun l hl => (HLL.out l hl).2.1)).mono ?_; rintro e w4 ⟨A8, c8, rfl, hw, hb⟩; rw [HWS.out] at hw ⊢; have hbn := below_step HB.out hb; have hlm := HLM.out.below hb; clear HB HR1 HLM; have HB := Aside0.mk hbn; have HLM := Aside0.mk hlm; have HW := Aside0.mk hw; clear hb hbn hlm hw))
    go_loopg [9, 10] ws.length (fun q v9 v10 wr => ∃ (i n9 c9 : Nat) (A9 : Option Addr), v9 = .slice A9 n9 c9 ∧ v10 = .int .i64 (i : Int) ∧ i ≤ ws.length ∧ n9 ≤ i ∧ Aside0 (q = ws.length - i) ∧ Aside0 (Kd.R (Kd.int .i64) 3 wr w4.heap.size (fun _ => True) (.slice A9 n9 c9) ((ws.take i).filter (pF z))) ∧ Aside0 (Below w4.heap.size w4 wr))
    case atStart => exact ⟨0, 0, 0, none, rfl, rfl, Nat.zero_le _, Nat.le_refl _, ⟨rfl⟩, ⟨Kd.R_nil _ _ _ _ _⟩, ⟨Below.refl _ _⟩⟩
    case round =>
      obtain ⟨i, n9, c9, A9, rfl, rfl, hi, hn9, hq, HR, HBL⟩ := hrel
      by_cases hlt : i < ws.length
      · obtain ⟨ad, rfl, r1⟩ := at_i64 (C_own (Kd.R_below HW.out HBL.out)) i hlt
        obtain ⟨x0, x1⟩ := HWB.out _ (List.mem_of_getElem? (show ws[i]? = some (ws.getD i 0) by rw [List.getD_eq_getElem?_getD, List.getElem?_eq_getElem hlt]; rfl))
        have HT := Aside0.mk (show (ws.take (i + 1)).filter (pF z) = (ws.take i).filter (pF z) ++ (if pF z (ws.getD i 0) then [ws.getD i 0] else []) by
          rw [List.take_succ_eq_append_getElem hlt, List.filter_append, List.getD_eq_getElem?_getD, List.getElem?_eq_getElem hlt]
          congr 1
          show [ws[i]].filter (pF z) = if pF z ws[i] then [ws[i]] else []
          by_cases h : pF z ws[i] = true <;> simp [h])
        generalize ws.getD i 0 = x at *
        have hcz : IntKind.i64.wrap z = z := by rw [IntKind.wrap_i64]; omega
        have hi0 : (0 : Int) ≤ (i : Int) := by omega
        have hi1 : (i : Int) < (ws.length : Int) := by omega
        have hsz := HBL.out.size
        have hn9l := (Kd.R_reads' HR.out).1
        have HNL := Aside0.mk hn9l
        clear hn9l
        by_cases hge : z / 10 ≤ x / 10
        · have d1 : decide (z / 10 ≤ x / 10) = true := decide_eq_true hge
          have HS := Aside0.mk (show (ws.take (i + 1)).filter (pF z) = (ws.take i).filter (pF z) ++ [x] by
            rw [HT.out, if_pos (show pF z x = true from decide_eq_true (by unfold cT; omega))])
          clear hge
          go_wp2_with (at_builtin; refine Kd.R_append (Kd.int .i64) (w0 := w4) w4.heap.size rfl (.tmp 41) (.tmp 46) 70 3 (.int .i64 0) 8 rfl Try.underlying70 infoI64 rfl (by decide) (by omega) _ ((ws.take i).filter (pF z)) x [.int .i64 x] (fun _ => True) (fun _ => False) rfl rfl rfl (fun _ h => h.elim) (fun _ _ => trivial) HR.out HBL.out hsz (by rw [← HNL.out]; omega) ?_; intro v1 w1 h1 hb1 hg1 hat1; rw [← HS.out] at h1; obtain ⟨A10, c10, rfl⟩ := Kd.R_slice h1; have HR3 := Aside0.mk h1; have HB3 := Aside0.mk hb1; clear h1 hb1 hg1 hat1)
          go_roundg (ws.length - (i + 1))
          case measure => have := hq.out; omega
          case rel => exact ⟨i + 1, _, c10, A10, rfl, by go_num, by omega, (by rw [HS.out, List.length_append, ← HNL.out]; simp; omega), ⟨rfl⟩, HR3, HB3⟩
        · have d1 : decide (z / 10 ≤ x / 10) = false := decide_eq_false hge
          have HS := Aside0.mk (show (ws.take (i + 1)).filter (pF z) = (ws.take i).filter (pF z) by
            rw [HT.out, if_neg (show ¬ pF z x = true by rw [show pF z x = false from decide_eq_false (by unfold cT; omega)]; exact Bool.false_ne_true), List.append_nil])
          clear hge
          go_wp2_with fail
          go_roundg (ws.length - (i + 1))
          case measure => have := hq.out; omega
          case rel => exact ⟨i + 1, n9, c9, A9, rfl, by go_num, by omega, by omega, ⟨rfl⟩, ⟨by rw [HS.out]; exact HR.out⟩, HBL⟩
      · obtain rfl : i = ws.length := by omega
        have HRE := Aside0.mk (show Kd.R (Kd.int .i64) 3 wr w4.heap.size (fun _ => True) (.slice A9 n9 c9) (ws.filter (pF z)) by have := HR.out; rwa [List.take_length] at this)
        have HW1 := Aside0.mk (Kd.R_below HW.out HBL.out)
        have HR1 := HRE
        have HLM1 := Aside0.mk (HLM.out.below HBL.out)
        have HB1 := Aside0.mk (below_step HB.out HBL.out)
        have HXL := Aside0.mk (show ∀ xs : List Int, xs = ws → xs.length ≤ 1000000 from fun xs h => by rw [h]; omega)
        have HFXL := Aside0.mk (show (ws.filter (pF z)).length ≤ 1000000 from Nat.le_trans (List.length_filter_le _ _) (by omega))
        have HWQ := Aside0.mk hwl
        have hcz : IntKind.i64.wrap z = z := by rw [IntKind.wrap_i64]; omega
        clear hwl HR HW HLM HB HBL HRE
        go_wp2_with (first
          | (go_at_call 42; refine (all_value g _).mono ?_; rintro e a1 ⟨rfl, ha1⟩; have hba := below_eq1 ha1; have HW2 := Aside0.mk (Kd.R_below HW1.out hba); have HR2 := Aside0.mk (Kd.R_below HR1.out hba); have HLM2 := Aside0.mk (HLM1.out.below hba); have HB2 := Aside0.mk (below_step HB1.out hba); clear HW1 HR1 HLM1 HB1; have hsq := fun n => all_T n _ g c5 (totF L) A5 L a1 (cell_eq1 ha1) HLM2.out (fun l hl => (HLL.out l hl).2.1) (by omega) (fun l hl => Nat.le_trans (HLL.out l hl).2.2 (by decide)) (Nat.le_refl _); rw [HAW.out] at hsq; have HSQ := Aside0.mk hsq; clear hsq ha1 hba)
          | (go_at_call 41; (with_reducible refine (collected_A _ ws _ _ _ HSQ.out (Nat.le_refl _) (Below.refl _ _) (HXL.out ws rfl)).mono ?_); rintro e a2 ⟨v2, rfl, hv, hba⟩; obtain ⟨A20, c20, rfl⟩ := Kd.R_slice hv; have HV := Aside0.mk hv; clear HSQ; have HW3 := Aside0.mk (Kd.R_below HW2.out hba); have HR3 := Aside0.mk (Kd.R_below HR2.out hba); have HLM3 := Aside0.mk (HLM2.out.below hba); have HB3 := Aside0.mk (below_step HB2.out hba); clear HW2 HR2 HLM2 HB2; clear hv hba)
          | (go_at_call 40; (with_reducible refine (same_any A20 A8 _ _ c20 c8 ws _ (C_own HV.out) (C_own HW3.out)).mono ?_); rintro e a3 ⟨rfl, hba⟩; clear HV; have HW4 := Aside0.mk (Kd.R_below HW3.out hba); have HR4 := Aside0.mk (Kd.R_below HR3.out hba); have HLM4 := Aside0.mk (HLM3.out.below hba); have HB4 := Aside0.mk (below_step HB3.out hba); clear HW3 HR3 HLM3 HB3; clear hba)
          | (go_at_call 42; refine (all_value g _).mono ?_; rintro e a1 ⟨rfl, ha1⟩; have hba := below_eq1 ha1; have HW5 := Aside0.mk (Kd.R_below HW4.out hba); have HR5 := Aside0.mk (Kd.R_below HR4.out hba); have HLM5 := Aside0.mk (HLM4.out.below hba); have HB5 := Aside0.mk (below_step HB4.out hba); clear HW4 HR4 HLM4 HB4; have hsq := fun n => all_T n _ g c5 (totF L) A5 L a1 (cell_eq1 ha1) HLM5.out (fun l hl => (HLL.out l hl).2.1) (by omega) (fun l hl => Nat.le_trans (HLL.out l hl).2.2 (by decide)) (Nat.le_refl _); rw [HAW.out] at hsq; have HSQ := Aside0.mk hsq; clear hsq ha1 hba)
          | (go_at_call 41; (with_reducible refine (collected_A _ ws _ _ _ HSQ.out (Nat.le_refl _) (Below.refl _ _) (HXL.out ws rfl)).mono ?_); rintro e a2 ⟨v2, rfl, hv, hba⟩; obtain ⟨A20, c20, rfl⟩ := Kd.R_slice hv; have HV := Aside0.mk hv; clear HSQ; have HW6 := Aside0.mk (Kd.R_below HW5.out hba); have HR6 := Aside0.mk (Kd.R_below HR5.out hba); have HLM6 := Aside0.mk (HLM5.out.below hba); have HB6 := Aside0.mk (below_step HB5.out hba); clear HW5 HR5 HLM5 HB5; clear hv hba)
          | (go_at_call 40; (with_reducible refine (same_any A20 A8 _ _ c20 c8 ws _ (C_own HV.out) (C_own HW6.out)).mono ?_); rintro e a3 ⟨rfl, hba⟩; clear HV; have HW7 := Aside0.mk (Kd.R_below HW6.out hba); have HR7 := Aside0.mk (Kd.R_below HR6.out hba); have HLM7 := Aside0.mk (HLM6.out.below hba); have HB7 := Aside0.mk (below_step HB6.out hba); clear HW6 HR6 HLM6 HB6; clear hba)
          | (go_at_call 43; refine (from_value g z _).mono ?_; rintro e a1 ⟨rfl, ha1⟩; have hba := below_eq2 ha1; have HW8 := Aside0.mk (Kd.R_below HW7.out hba); have HR8 := Aside0.mk (Kd.R_below HR7.out hba); have HLM8 := Aside0.mk (HLM7.out.below hba); have HB8 := Aside0.mk (below_step HB7.out hba); clear HW7 HR7 HLM7 HB7; have hsq := fun n => from_seq n _ _ g c5 (totF L) A5 L z a1 (cell_eq2a ha1) (cell_eq2b ha1) HLM8.out (fun l hl => (HLL.out l hl).2.1) (by omega) (fun l hl => Nat.le_trans (HLL.out l hl).2.2 (by decide)) (Nat.le_refl _) (by omega); rw [HAW.out] at hsq; have HSQ := Aside0.mk hsq; clear hsq ha1 hba)
          | (go_at_call 41; (with_reducible refine (collected_R _ _ _ _ _ HSQ.out (Nat.le_refl _) (Below.refl _ _) HFXL.out).mono ?_); rintro e a2 ⟨v2, rfl, hv, hba⟩; obtain ⟨A20, c20, rfl⟩ := Kd.R_slice hv; generalize hk9 : (ws.filter (pF z)).length = k9 at hv ⊢; clear hk9; have HV := Aside0.mk hv; clear HSQ; have HW9 := Aside0.mk (Kd.R_below HW8.out hba); have HR9 := Aside0.mk (Kd.R_below HR8.out hba); have HLM9 := Aside0.mk (HLM8.out.below hba); have HB9 := Aside0.mk (below_step HB8.out hba); clear HW8 HR8 HLM8 HB8; clear hv hba)
          | (go_at_call 40; (with_reducible refine (same_any A20 A9 _ _ c20 c9 (ws.filter (pF z)) _ (C_own HV.out) (C_own HR9.out)).mono ?_); rintro e a3 ⟨rfl, hba⟩; clear HV; have HW10 := Aside0.mk (Kd.R_below HW9.out hba); have HR10 := Aside0.mk (Kd.R_below HR9.out hba); have HLM10 := Aside0.mk (HLM9.out.below hba); have HB10 := Aside0.mk (below_step HB9.out hba); clear HW9 HR9 HLM9 HB9; clear hba)
          | (go_at_call 42; refine (all_valueN _).mono ?_; rintro e a1 ⟨rfl, ha1⟩; have hba := below_eq1 ha1; have HW11 := Aside0.mk (Kd.R_below HW10.out hba); have HR11 := Aside0.mk (Kd.R_below HR10.out hba); have HLM11 := Aside0.mk (HLM10.out.below hba); have HB11 := Aside0.mk (below_step HB10.out hba); clear HW10 HR10 HLM10 HB10; have HSQ := Aside0.mk (fun n => all_N n _ a1 (cell_eq1 ha1)); clear ha1 hba)
          | (go_at_call 41; (with_reducible refine (collected_A _ [] _ _ _ HSQ.out (Nat.le_refl _) (Below.refl _ _) (Nat.zero_le _)).mono ?_); rintro e a2 ⟨v2, rfl, hv, hba⟩; obtain ⟨A20, c20, rfl⟩ := Kd.R_slice hv; clear HSQ; have HW12 := Aside0.mk (Kd.R_below HW11.out hba); have HR12 := Aside0.mk (Kd.R_below HR11.out hba); have HLM12 := Aside0.mk (HLM11.out.below hba); have HB12 := Aside0.mk (below_step HB11.out hba); clear HW11 HR11 HLM11 HB11; clear hv hba)
          | (go_at_call 35; refine (awake25_any _).mono ?_; rintro e wa ⟨rfl, hb⟩; have HBZ := Aside0.mk (below_step HB12.out hb); clear hb))
        go_ret
        exact ⟨rfl, HBZ.out⟩
  · have HOK := Aside0.mk (decide_eq_false hok)
    clear hok
    go_wp2_with (first
      | (go_at_call 35; refine (awake25_any _).mono ?_; rintro e wa ⟨rfl, hb⟩; have hbn := below_step HB.out hb; clear HB; have HB := Aside0.mk hbn; clear hb hbn)
      | (go_at_call 36; refine (lists25_any A cp us _ (Kd.C_below HC.out HB.out) HV.out).mono ?_; rintro e w2 ⟨A1, c1, rfl, hr, hb⟩; rw [HLE.out, HML.out] at hr; rw [HOK.out, HML.out]; have hbn := below_step HB.out hb; clear HB; have HB := Aside0.mk hbn; have HR1 := Aside0.mk hr; clear hb hbn hr))
    go_ret
    exact ⟨rfl, HB.out⟩
end Go.Proofs.Ytldiginkmmlojaa
