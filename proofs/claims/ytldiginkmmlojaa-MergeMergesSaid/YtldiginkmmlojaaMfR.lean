/- Merging: the reference: all. -/
import Derived.Test.YtldiginkmmlojaaMfQ
namespace Go.Proofs.Ytldiginkmmlojaa
set_option linter.unusedVariables false
set_option linter.unusedSimpArgs false
open Go.RowKit Go.Proofs.YtldiginkmmlojaaW.PrintWords

/-- The first things: of i lists all, of the next one so many. -/
def preT (L : List (List Int)) (i k : Nat) : List Int := (L.take i).flatten ++ (L.getD i []).take k
theorem preT_zero (L : List (List Int)) (i : Nat) : preT L i 0 = (L.take i).flatten := by
  unfold preT; rw [List.take_zero, List.append_nil]
theorem preT_step (L : List (List Int)) (i k : Nat) (h : k < (L.getD i []).length) : preT L i (k + 1) = preT L i k ++ [(L.getD i []).getD k 0] := by
  unfold preT
  rw [List.take_succ_eq_append_getElem h, List.append_assoc, List.getD_eq_getElem?_getD (l := L.getD i []), List.getElem?_eq_getElem h]
  rfl
theorem preT_next (L : List (List Int)) (i : Nat) (h : i < L.length) : preT L i (L.getD i []).length = preT L (i + 1) 0 := by
  rw [preT_zero]
  unfold preT
  rw [List.take_length, List.take_succ_eq_append_getElem h, List.flatten_append, List.getD_eq_getElem?_getD, List.getElem?_eq_getElem h]
  simp
theorem preT_sub (L : List (List Int)) (i k : Nat) : preT L i k <+: L.flatten := by
  unfold preT
  rcases Nat.lt_or_ge i L.length with h | h
  · have e : L = L.take i ++ L.getD i [] :: L.drop (i + 1) := by
      rw [List.getD_eq_getElem?_getD, List.getElem?_eq_getElem h]
      show L = L.take i ++ L[i] :: L.drop (i + 1)
      rw [← List.drop_eq_getElem_cons h, List.take_append_drop]
    have e2 : L.flatten = (L.take i).flatten ++ ((L.getD i []) ++ (L.drop (i + 1)).flatten) := by
      conv => lhs; rw [e]
      rw [List.flatten_append, List.flatten_cons]
    rw [e2]
    exact List.prefix_append_right_inj _ |>.2 ((List.take_prefix _ _).trans (List.prefix_append _ _))
  · rw [List.take_of_length_le h, List.getD_eq_getElem?_getD, List.getElem?_eq_none h]
    simp
theorem putT_foldmem : ∀ (q l : List Int) (a : Int), a ∈ q.foldl putT l → a ∈ l ∨ a ∈ q
  | [], l, a, h => .inl h
  | x :: q, l, a, h => by
    rcases putT_foldmem q (putT l x) a h with h | h
    · rcases (put_mem l x a).1 h with h | h
      · exact .inl h
      · exact .inr (by rw [h.1]; exact List.mem_cons_self ..)
    · exact .inr (List.mem_cons_of_mem _ h)
set_option maxRecDepth 100000 in
set_option maxHeartbeats 4000000 in
theorem all25_any (A : Option Addr) (c : Nat) (L : List (List Int)) (w : World) (hC : Kd.C kLL w A L.length L) (hl : L.length ≤ 1000) (hL : L.flatten.length ≤ 50000) (hv : ∀ l ∈ L, ∀ y ∈ l, 0 ≤ y ∧ y ≤ 1000000) :
    Calls Try.prog 39 #[.slice A L.length c] w fun e w' => ∃ A' c', e = .returned (.slice A' (L.flatten.foldl putT []).length c') ∧ Kd.R (Kd.int .i64) 3 w' w.heap.size (fun _ => True) (.slice A' (L.flatten.foldl putT []).length c') (L.flatten.foldl putT []) ∧ Below w.heap.size w w' := by
  have HC := Aside0.mk hC
  have HPL := Aside0.mk (show ∀ i k, (preT L i k).length ≤ 50000 ∧ ∀ y ∈ (preT L i k).foldl putT [], 0 ≤ y ∧ y ≤ 1000000 from fun i k => by
    have h := preT_sub L i k
    refine ⟨Nat.le_trans h.length_le hL, fun y hy => ?_⟩
    rcases putT_foldmem _ _ _ hy with h1 | h1
    · cases h1
    · obtain ⟨l, hl, h2⟩ := List.mem_flatten.1 (h.subset h1)
      exact hv l hl y h2)
  have HVI := Aside0.mk (show ∀ i k, i < L.length → k < (L.getD i []).length → 0 ≤ (L.getD i []).getD k 0 ∧ (L.getD i []).getD k 0 ≤ 1000000 from fun i k hi hk => hv _ (List.mem_of_getElem? (show L[i]? = some (L.getD i []) by rw [List.getD_eq_getElem?_getD, List.getElem?_eq_getElem hi]; rfl)) _ (List.mem_of_getElem? (show (L.getD i [])[k]? = some ((L.getD i []).getD k 0) by rw [List.getD_eq_getElem?_getD (l := L.getD i []), List.getElem?_eq_getElem hk]; rfl)))
  have HLL := Aside0.mk (show ∀ i, (L.getD i []).length ≤ 50000 from fun i => by
    have h := (preT_sub L i (L.getD i []).length).length_le
    unfold preT at h
    rw [List.length_append, List.take_length] at h
    omega)
  clear hC hL hv
  go_enter Try.func39, Try.ntmps39
  go_wp2_with fail
  go_loopg [3, 4] L.length (fun q v3 v4 wr => ∃ (i c3 : Nat) (A3 : Option Addr) (o : List Int), v3 = .slice A3 o.length c3 ∧ v4 = .int .i64 (i : Int) ∧ i ≤ L.length ∧ Aside0 (o = (preT L i 0).foldl putT []) ∧ Aside0 (q = L.length - i) ∧ Aside0 (Kd.R (Kd.int .i64) 3 wr w.heap.size (fun _ => True) (.slice A3 o.length c3) o) ∧ Aside0 (Below w.heap.size w wr))
  case atStart => exact ⟨0, 0, none, [], rfl, rfl, Nat.zero_le _, ⟨rfl⟩, ⟨rfl⟩, ⟨Kd.R_nil _ _ _ _ _⟩, ⟨Below.refl _ _⟩⟩
  case round =>
    obtain ⟨i, c3, A3, o, rfl, rfl, hi, HO, hq, HA, HB⟩ := hrel
    by_cases hlt : i < L.length
    · have hll := HLL.out i
      go_wp2_with fail
      go_loopg [3, 5] (L.getD i []).length (fun q v3 v5 wr2 => ∃ (k c3 : Nat) (A3 : Option Addr) (o : List Int), v3 = .slice A3 o.length c3 ∧ v5 = .int .i64 (k : Int) ∧ k ≤ (L.getD i []).length ∧ Aside0 (o = (preT L i k).foldl putT []) ∧ Aside0 (q = (L.getD i []).length - k) ∧ Aside0 (Kd.R (Kd.int .i64) 3 wr2 w.heap.size (fun _ => True) (.slice A3 o.length c3) o) ∧ Aside0 (Below w.heap.size w wr2))
      case atStart => exact ⟨0, c3, A3, o, rfl, rfl, Nat.zero_le _, HO, ⟨rfl⟩, HA, HB⟩
      case round =>
        clear HO HA HB
        obtain ⟨k, c4, A4, o2, rfl, rfl, hk, HO, hq2, HA, HB⟩ := hrel
        obtain ⟨ad, A6, c6, rfl, r1, hl3, hC3⟩ := at_LL (Kd.C_below HC.out HB.out) i hlt
        have HSN := Aside0.mk (preT_step L i k)
        have HVK := Aside0.mk (fun k => HVI.out i k hlt)
        have HNX := Aside0.mk (preT_next L i hlt)
        have HLI := Aside0.mk (show ∀ k, (preT L i k).foldl putT [] = (preT L i k).foldl putT [] from fun _ => rfl)
        generalize L.getD i [] = li at *
        have hi0 : (0 : Int) ≤ (i : Int) := by omega
        have hi1 : (i : Int) < (L.length : Int) := by omega
        by_cases hkl : k < li.length
        · obtain ⟨ad3, rfl, r3⟩ := at_i64 hC3 k hkl
          have HX := Aside0.mk (HVK.out k hkl)
          have HO2 := Aside0.mk (show (preT L i (k + 1)).foldl putT [] = putT o2 (li.getD k 0) by rw [HSN.out hkl, List.foldl_append, ← HO.out]; rfl)
          generalize li.getD k 0 = x at *
          have hol : o2.length ≤ 100000 := by
            have h1 := putT_foldlen (preT L i k) []
            have h2 := (HPL.out i k).1
            rw [← HO.out, List.length_nil] at h1
            omega
          have hszb := HB.out.size
          have HP := Aside0.mk (put25_any A4 c4 w.heap.size _ o2 x wr HA.out hszb hol (by rw [HO.out]; exact (HPL.out i k).2) HX.out)
          have hk0 : (0 : Int) ≤ (k : Int) := by omega
          have hk1 : (k : Int) < (li.length : Int) := by omega
          clear hC3 hol hszb
          go_wp2_with (go_at_call 70; refine HP.out.mono ?_; rintro e w1 ⟨A7, c7, rfl, hr, hb⟩; rw [← HO2.out] at hr ⊢; have HA1 := Aside0.mk hr; have HB1 := Aside0.mk (below_step HB.out hb); clear hr hb)
          go_roundg (li.length - (k + 1))
          case measure => have := hq2.out; omega
          case rel => exact ⟨k + 1, c7, A7, _, rfl, by go_num, by omega, ⟨rfl⟩, ⟨rfl⟩, HA1, HB1⟩
        · obtain rfl : k = li.length := by omega
          clear hC3
          go_wp2_with fail
          go_roundg (L.length - (i + 1))
          case measure => have := hq.out; omega
          case rel => exact ⟨i + 1, c4, A4, o2, rfl, by go_num, by omega, ⟨by rw [HO.out, HNX.out]⟩, ⟨rfl⟩, HA, HB⟩
    · obtain rfl : i = L.length := by omega
      have HE := Aside0.mk (show L.flatten.foldl putT [] = o by rw [HO.out, preT_zero, List.take_length])
      go_wp2_with fail
      go_ret
      exact ⟨A3, c3, by rw [HE.out]; rfl, by rw [HE.out]; exact HA.out, HB.out⟩
end Go.Proofs.Ytldiginkmmlojaa
