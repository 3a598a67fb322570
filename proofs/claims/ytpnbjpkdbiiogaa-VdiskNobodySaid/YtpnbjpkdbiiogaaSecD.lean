/- Alike bytes are told alike; pieces at a place below 0; the chapter's example (awake) answers true. -/
import Derived.Test.YtpnbjpkdbiiogaaSecC
namespace Go.Proofs.Ytpnbjpkdbiiogaa
set_option linter.unusedVariables false
open Go.RowKit Go.Proofs.YtpnbjpkdbiiogaaW.PrintWords

/-- Alike bytes are told alike. -/
theorem same_any (A0 A1 : Option Addr) (n m c0 c1 : Nat) (l : List Int) (w : World) (h0 : Kd.C (Kd.int .u8) w A0 n l) (h1 : Kd.C (Kd.int .u8) w A1 m l) :
    Calls Try.prog 20 #[.slice A0 n c0, .slice A1 m c1] w fun e w' => e = .returned (.bool true) ∧ w' = w := by
  have hcv3 := Kd.C_string (P := Try.prog) (A := A0) (c := c0) Try.underlying22 Try.underlying5 Try.underlying9 h0
  have hcv4 := Kd.C_string (P := Try.prog) (A := A1) (c := c1) Try.underlying22 Try.underlying5 Try.underlying9 h1
  clear h0 h1
  go_enter Try.func20, Try.ntmps20
  go_wp2
  go_ret
  exact ⟨rfl, rfl⟩

/-- Element i of pieces that are read. -/
theorem at_Pc {w : World} {A : Option Addr} {n : Nat} {xs : List Pc} (h : Kd.C kPc w A n xs) (i : Nat) (h1 : i < n) : ∃ ad A2 c2, A = some ad ∧ w.cell? (ad.add (i * 3)) = some (.int .i64 (xs.getD i zPc).s) ∧ w.cell? ⟨(ad.add (i * 3)).block, (ad.add (i * 3)).off + 1, none⟩ = some (.int .i64 (xs.getD i zPc).f) ∧ w.cell? ⟨(ad.add (i * 3)).block, (ad.add (i * 3)).off + 2, none⟩ = some (.slice A2 (xs.getD i zPc).d.length c2) ∧ (Kd.int .u8).C w A2 (xs.getD i zPc).d.length (xs.getD i zPc).d := by
  obtain ⟨ad, c, e, _, hK, hc0⟩ := Kd.C_get h zPc (i : Int) (by omega) (by omega)
  simp only [Int.toNat_natCast] at hK hc0
  have hc : ∀ j u, c[j]? = some u → w.cell? (ad.add (i * 3 + j)) = some u := hc0
  obtain ⟨_, _, rfl, rfl, ⟨_, _, rfl, rfl, ⟨A2, c2, rfl, l2, g2⟩⟩⟩ := hK
  exact ⟨ad, A2, c2, e, hc 0 _ rfl, by rw [← add_field _ _ 1 (by omega)]; exact hc 1 _ rfl, by rw [← add_field _ _ 2 (by omega)]; exact hc 2 _ rfl, g2⟩

set_option maxHeartbeats 1000000 in
theorem pieces_neg (a : Int) (v : Value) (w : World) (ha : a < 0) :
    Calls Try.prog 16 #[.int .i64 a, v] w fun e w' => e = .returned (.slice none 0 0) ∧ w' = w := by
  go_enter Try.func16, Try.ntmps16
  go_wp2
  refine wp_loop_rounds 1 ?_
  rw [rounds_succ]
  go_wp2
  go_ret
  exact ⟨rfl, rfl⟩
theorem rpieces_neg (a : Int) (v : Value) (w : World) (ha : a < 0) :
    Calls Try.prog 17 #[.int .i64 a, v] w fun e w' => e = .returned (.slice none 0 0) ∧ w' = w := by
  go_enter Try.func17, Try.ntmps17
  go_wp2
  go_ret
  exact ⟨rfl, rfl⟩

theorem C_lit (W : World) (e : TypeId) (k : IntKind) (xs : List Int) (hm : xs.length ≤ 9223372036854775807) : (Kd.int k).C (W.alloc (.cells (xs.map (Value.int k)).toArray e)) (some ⟨W.heap.size, 0, none⟩) xs.length xs := by
  have h := own_lit W W.heap.size e k xs (Nat.le_refl _) hm
  obtain ⟨A, c, hA, hr⟩ := own_reads h
  cases hA
  exact Kd.C_of_reads (enc := Value.int k) (d := (0 : Int)) hr

theorem at_PcR {e g n c : Nat} {w : World} {base : Nat} {ok : Nat → Prop} {xs : List Pc} (h : Kd.R kPc e w base ok (.slice (some ⟨g, 0, none⟩) n c) xs) (i : Nat) (h1 : i < n) : ∃ A2 c2, w.cell? ⟨g, i * 3, none⟩ = some (.int .i64 (xs.getD i zPc).s) ∧ w.cell? ⟨g, i * 3 + 1, none⟩ = some (.int .i64 (xs.getD i zPc).f) ∧ w.cell? ⟨g, i * 3 + 2, none⟩ = some (.slice A2 (xs.getD i zPc).d.length c2) ∧ (Kd.int .u8).C w A2 (xs.getD i zPc).d.length (xs.getD i zPc).d := by
  obtain ⟨hn, _, hc⟩ := Kd.R_reads' h
  obtain ⟨ad, A2, c2, e, r0, r1, r2, r3⟩ := at_Pc hc i (by omega)
  cases e
  simp only [add_plain] at r0 r1 r2
  exact ⟨A2, c2, r0, r1, r2, r3⟩

theorem pieces_awake : pieces 63 [1, 2, 3] = [⟨0, 63, [1]⟩, ⟨1, 0, [2, 3]⟩] := by rfl
set_option maxHeartbeats 2000000 in
set_option maxRecDepth 100000 in
theorem awake05_any (w : World) : Calls Try.prog 15 #[] w fun e w' => e = .returned (.bool true) ∧ Below w.heap.size w w' := by
  have hC := Aside0.mk (C_lit w 5 .u8 [1, 2, 3] (by decide))
  go_enter Try.func15, Try.ntmps15
  go_wp2_with (go_at_call 16; refine (pieces_any 63 (some ⟨w.heap.size, 0, none⟩) 3 [1, 2, 3] _ hC.out (by decide) (by decide) (by decide)).mono ?_; rintro e w1 ⟨v, rfl, hv, hb⟩; rw [pieces_awake] at hv; obtain ⟨g, c, rfl, _, _, _⟩ := Kd.R_form hv (by decide); obtain ⟨A2, c2, h0, h1, h2, _⟩ := at_PcR hv 0 (by decide); obtain ⟨A3, c3, h3, h4, h5, _⟩ := at_PcR hv 1 (by decide); simp at h0 h1 h2 h3 h4 h5; have HBL := Aside0.mk hb; clear hv hb)
  go_ret
  exact ⟨rfl, (below_alloc (Below.refl _ _) _).trans (HBL.out.mono (by simp))⟩
end Go.Proofs.Ytpnbjpkdbiiogaa
