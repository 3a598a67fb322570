/- The walk of the law RateBursts: it answers true. -/
import Derived.Test.YtldiginkmmlojaaRaC
import Derived.DataShut
namespace Go.Proofs.Ytldiginkmmlojaa
set_option linter.unusedVariables false
open Go.RowKit Go.Maps Go.Proofs.YtldiginkmmlojaaW.PrintWords
attribute [local go_sem] mx2 mn2 mxTwo mnTwo

theorem opens_t82 : Opens Try.prog 82 (Kd.slice 5 (Kd.int .u8)) (fun xs => ∀ x ∈ xs, (Lit.int .u8 x).wf = true) := opens_slice Try.underlying82 (by kernel_rfl) (opens_int Try.underlying5)
theorem rd_u8 {us : List Int} (hg : ∀ x ∈ us, (Lit.int .u8 x).wf = true) (i : Nat) (h : i < us.length) : 0 ≤ rd us (i : Int) ∧ rd us (i : Int) ≤ 255 := by
  have hm : rd us (i : Int) ∈ us := by
    unfold rd
    rw [Int.toNat_natCast, List.getD_eq_getElem?_getD, List.getElem?_eq_getElem h]
    exact List.getElem_mem _
  have := (Lit.wf_int_iff .u8 _).1 (hg _ hm)
  exact this
theorem add_zero' (ad : Addr) : ad.add 0 = ad := by obtain ⟨b, o, e⟩ := ad; unfold Addr.add; split <;> simp_all
set_option maxRecDepth 100000 in
set_option maxHeartbeats 2000000 in
theorem bursts_walk (S B : Int) (A : Option Addr) (cp : Nat) (us : List Int) (w : World) (s0 : 0 ≤ S) (s1 : S ≤ 255) (b0 : 0 ≤ B) (b1 : B ≤ 255) (hC : (Kd.int .u8).C w A us.length us) (hcap : us.length ≤ cp) (hg : ∀ x ∈ us, (Lit.int .u8 x).wf = true) :
    Calls Try.prog 12 #[.int .u8 S, .int .u8 B, .slice A us.length cp] w fun e w' => e = .returned (.bool true) ∧ Below w.heap.size w w' := by
  have hmu := Kd.C_max hC
  have HC := Aside0.mk hC
  have HG := Aside0.mk hg
  clear hC hg
  have HB := Aside0.mk (Below.refl w.heap.size w)
  have hB : mx B 0 = B := by unfold mx; rw [if_neg (by omega)]
  obtain ⟨P, hP, hP1⟩ : ∃ P, mx S 1 = P ∧ ((S < 1 ∧ 1 = P) ∨ (¬ S < 1 ∧ S = P)) := ⟨_, rfl, by unfold mx; by_cases h : S < 1 <;> simp [h]⟩
  have HP := Aside0.mk hP
  have HBB := Aside0.mk hB
  have HP1 := Aside0.mk hP1
  clear hB hP hP1
  go_enter Try.func12, Try.ntmps12
  go_wp2_with (first
    | (go_at_call 60; refine (awake38_any _).mono ?_; rintro e W9 ⟨rfl, hb⟩; have hbn := below_step HB.out hb; clear HB; have HB := Aside0.mk hbn; clear hb hbn)
    | (go_at_call 58; (refine (lnew_any w.heap.size S B 3 _ (below_size HB.out)).mono ?_; rw [HP.out, HBB.out]; rintro e W ⟨g, m, rfl, hl, hb⟩; have HL := Aside0.mk (show LI W w.heap.size g m 0 P B 3 none from hl); have hbn := below_step HB.out hb; clear HB; have HB := Aside0.mk hbn; clear hl hb hbn)))
  clear HP HBB
  go_loopg [8, 9, 10, 11, 12] us.length (fun gh v8 v9 v10 v11 v12 wr => ∃ (i : Nat) (nw si le ba : Int) (o : Option WV), v8 = .int .u64 nw ∧ v9 = .int .u64 si ∧ v10 = .int .i64 le ∧ v11 = .int .i64 ba ∧ v12 = .int .i64 (i : Nat) ∧ i ≤ us.length ∧ i ≤ 200 ∧ 5 ≤ nw ∧ nw ≤ 5 + 255 * (i : Int) ∧ 0 ≤ le ∧ le ≤ B ∧ le ≤ (i : Int) ∧ 0 ≤ ba ∧ ba ≤ (i : Int) ∧ 0 ≤ si ∧ si ≤ nw ∧ Aside0 ((i = 0 ∧ o = none ∧ ba = 0) ∨ (0 < i ∧ o = some ⟨si, le, ba⟩)) ∧ Aside0 (gh = us.length - i) ∧ Aside0 (LI wr w.heap.size g m i P B 3 o) ∧ Aside0 (Below w.heap.size w wr))
  case atStart => exact ⟨0, 5, 0, 0, 0, none, rfl, rfl, rfl, rfl, rfl, Nat.zero_le _, Nat.zero_le _, by decide, by decide, by decide, b0, by decide, by decide, by decide, by decide, by decide, ⟨.inl ⟨rfl, rfl, rfl⟩⟩, ⟨rfl⟩, HL, HB⟩
  case round =>
    clear HL HB
    obtain ⟨i, nw, si, le, ba, o, rfl, rfl, rfl, rfl, rfl, hi, h200, hw5, hwi, hle0, hleB, hlei, hba0, hbai, hsi0, hsiw, HO, hgh, HL, HB⟩ := hrel
    by_cases hlt : i < us.length ∧ i < 200
    · obtain ⟨hl1, hl2⟩ := hlt
      obtain ⟨ad, rfl, sy⟩ := Kd.at_int (Kd.C_below HC.out HB.out) (i : Int) (by omega) (by omega)
      simp only [Int.toNat_natCast] at sy
      obtain ⟨y0, y1⟩ := rd_u8 HG.out i hl1
      obtain ⟨y, hy⟩ : ∃ y, y = rd us (i : Int) := ⟨_, rfl⟩
      rw [← hy] at sy y0 y1
      clear hy
      rcases HP1.out with ⟨hS, rfl⟩ | ⟨hS, rfl⟩
      · rcases HO.out with ⟨rfl, rfl, rfl⟩ | ⟨hi0, rfl⟩
        · have sy0 : wr.cell? ad = some (.int .u8 y) := by rw [add_zero'] at sy; exact sy
          have HGW := Aside0.mk (show goodW (nw + y) none from fun x hx => by cases hx)
          by_cases hB0 : 0 < B
          ·
            have HA := Aside0.mk (show allowW B (baseW (1) (nw + y) (none)) = (true, ⟨nw + y, 1, 0⟩) ∧ toldW (1) (nw + y) (none) = 0 by constructor <;> simp [allowW, baseW, toldW, *])
            go_wp2_with (go_at_call 61; refine (allow_any w.heap.size g m (0) (1) B 3 (none) (nw + y) _ HL.out (by omega) (by decide) (by omega) (by omega) HGW.out).mono ?_; rw [HA.out.1, HA.out.2]; rintro e W1 ⟨rfl, hl, hb⟩; have hbn := HB.out.trans hb; clear HB HL; have HB := Aside0.mk hbn; have HL := Aside0.mk hl; clear hl hb hbn)
            go_roundg (us.length - (0 + 1))
            case measure => have := hgh.out; omega
            case rel => exact ⟨0 + 1, nw + y, nw + y, 1, 0, some ⟨nw + y, 1, 0⟩, by go_num, by go_num, by go_num, by go_num, by go_num, by omega, by omega, by omega, by omega, by omega, by omega, by omega, by omega, by omega, by omega, by omega, ⟨.inr ⟨by omega, rfl⟩⟩, ⟨rfl⟩, HL, HB⟩
          ·
            have HA := Aside0.mk (show allowW B (baseW (1) (nw + y) (none)) = (false, ⟨nw + y, 0, 1⟩) ∧ toldW (1) (nw + y) (none) = 0 by constructor <;> simp [allowW, baseW, toldW, *])
            go_wp2_with (go_at_call 61; refine (allow_any w.heap.size g m (0) (1) B 3 (none) (nw + y) _ HL.out (by omega) (by decide) (by omega) (by omega) HGW.out).mono ?_; rw [HA.out.1, HA.out.2]; rintro e W1 ⟨rfl, hl, hb⟩; have hbn := HB.out.trans hb; clear HB HL; have HB := Aside0.mk hbn; have HL := Aside0.mk hl; clear hl hb hbn)
            go_roundg (us.length - (0 + 1))
            case measure => have := hgh.out; omega
            case rel => exact ⟨0 + 1, nw + y, nw + y, 0, 1, some ⟨nw + y, 0, 1⟩, by go_num, by go_num, by go_num, by go_num, by go_num, by omega, by omega, by omega, by omega, by omega, by omega, by omega, by omega, by omega, by omega, by omega, ⟨.inr ⟨by omega, rfl⟩⟩, ⟨rfl⟩, HL, HB⟩
        · have HGW := Aside0.mk (show goodW (nw + y) (some ⟨si, le, ba⟩) from fun x hx => by cases hx; exact ⟨hsi0, by show si ≤ nw + y; omega, hle0, by show le ≤ 1000; omega, hba0, by show ba ≤ 1000; omega⟩)
          by_cases hf : 1 ≤ nw + y - si
          · by_cases hB0 : 0 < B
            ·
              have HA := Aside0.mk (show allowW B (baseW (1) (nw + y) (some ⟨si, le, ba⟩)) = (true, ⟨nw + y, 1, 0⟩) ∧ toldW (1) (nw + y) (some ⟨si, le, ba⟩) = ba by constructor <;> simp [allowW, baseW, toldW, *])
              go_wp2_with (go_at_call 61; refine (allow_any w.heap.size g m (i) (1) B 3 (some ⟨si, le, ba⟩) (nw + y) _ HL.out (by omega) (by decide) (by omega) (by omega) HGW.out).mono ?_; rw [HA.out.1, HA.out.2]; rintro e W1 ⟨rfl, hl, hb⟩; have hbn := HB.out.trans hb; clear HB HL; have HB := Aside0.mk hbn; have HL := Aside0.mk hl; clear hl hb hbn)
              go_roundg (us.length - (i + 1))
              case measure => have := hgh.out; omega
              case rel => exact ⟨i + 1, nw + y, nw + y, 1, 0, some ⟨nw + y, 1, 0⟩, by go_num, by go_num, by go_num, by go_num, by go_num, by omega, by omega, by omega, by omega, by omega, by omega, by omega, by omega, by omega, by omega, by omega, ⟨.inr ⟨by omega, rfl⟩⟩, ⟨rfl⟩, HL, HB⟩
            ·
              have HA := Aside0.mk (show allowW B (baseW (1) (nw + y) (some ⟨si, le, ba⟩)) = (false, ⟨nw + y, 0, 1⟩) ∧ toldW (1) (nw + y) (some ⟨si, le, ba⟩) = ba by constructor <;> simp [allowW, baseW, toldW, *])
              go_wp2_with (go_at_call 61; refine (allow_any w.heap.size g m (i) (1) B 3 (some ⟨si, le, ba⟩) (nw + y) _ HL.out (by omega) (by decide) (by omega) (by omega) HGW.out).mono ?_; rw [HA.out.1, HA.out.2]; rintro e W1 ⟨rfl, hl, hb⟩; have hbn := HB.out.trans hb; clear HB HL; have HB := Aside0.mk hbn; have HL := Aside0.mk hl; clear hl hb hbn)
              go_roundg (us.length - (i + 1))
              case measure => have := hgh.out; omega
              case rel => exact ⟨i + 1, nw + y, nw + y, 0, 1, some ⟨nw + y, 0, 1⟩, by go_num, by go_num, by go_num, by go_num, by go_num, by omega, by omega, by omega, by omega, by omega, by omega, by omega, by omega, by omega, by omega, by omega, ⟨.inr ⟨by omega, rfl⟩⟩, ⟨rfl⟩, HL, HB⟩
          · have hwr : IntKind.u64.wrap (nw + y - si) = nw + y - si := by show (nw + y - si) % 18446744073709551616 = _; omega
            have hge : decide (1 ≤ nw + y - si) = false := decide_eq_false hf
            by_cases hB0 : le < B
            ·
              have HA := Aside0.mk (show allowW B (baseW (1) (nw + y) (some ⟨si, le, ba⟩)) = (true, ⟨si, le + 1, ba⟩) ∧ toldW (1) (nw + y) (some ⟨si, le, ba⟩) = 0 by constructor <;> simp [allowW, baseW, toldW, *])
              go_wp2_with (go_at_call 61; refine (allow_any w.heap.size g m (i) (1) B 3 (some ⟨si, le, ba⟩) (nw + y) _ HL.out (by omega) (by decide) (by omega) (by omega) HGW.out).mono ?_; rw [HA.out.1, HA.out.2]; rintro e W1 ⟨rfl, hl, hb⟩; have hbn := HB.out.trans hb; clear HB HL; have HB := Aside0.mk hbn; have HL := Aside0.mk hl; clear hl hb hbn)
              go_roundg (us.length - (i + 1))
              case measure => have := hgh.out; omega
              case rel => exact ⟨i + 1, nw + y, si, le + 1, ba, some ⟨si, le + 1, ba⟩, by go_num, by go_num, by go_num, by go_num, by go_num, by omega, by omega, by omega, by omega, by omega, by omega, by omega, by omega, by omega, by omega, by omega, ⟨.inr ⟨by omega, rfl⟩⟩, ⟨rfl⟩, HL, HB⟩
            ·
              have HA := Aside0.mk (show allowW B (baseW (1) (nw + y) (some ⟨si, le, ba⟩)) = (false, ⟨si, le, ba + 1⟩) ∧ toldW (1) (nw + y) (some ⟨si, le, ba⟩) = 0 by constructor <;> simp [allowW, baseW, toldW, *])
              go_wp2_with (go_at_call 61; refine (allow_any w.heap.size g m (i) (1) B 3 (some ⟨si, le, ba⟩) (nw + y) _ HL.out (by omega) (by decide) (by omega) (by omega) HGW.out).mono ?_; rw [HA.out.1, HA.out.2]; rintro e W1 ⟨rfl, hl, hb⟩; have hbn := HB.out.trans hb; clear HB HL; have HB := Aside0.mk hbn; have HL := Aside0.mk hl; clear hl hb hbn)
              go_roundg (us.length - (i + 1))
              case measure => have := hgh.out; omega
              case rel => exact ⟨i + 1, nw + y, si, le, ba + 1, some ⟨si, le, ba + 1⟩, by go_num, by go_num, by go_num, by go_num, by go_num, by omega, by omega, by omega, by omega, by omega, by omega, by omega, by omega, by omega, by omega, by omega, ⟨.inr ⟨by omega, rfl⟩⟩, ⟨rfl⟩, HL, HB⟩
      · rcases HO.out with ⟨rfl, rfl, rfl⟩ | ⟨hi0, rfl⟩
        · have sy0 : wr.cell? ad = some (.int .u8 y) := by rw [add_zero'] at sy; exact sy
          have HGW := Aside0.mk (show goodW (nw + y) none from fun x hx => by cases hx)
          by_cases hB0 : 0 < B
          ·
            have HA := Aside0.mk (show allowW B (baseW (S) (nw + y) (none)) = (true, ⟨nw + y, 1, 0⟩) ∧ toldW (S) (nw + y) (none) = 0 by constructor <;> simp [allowW, baseW, toldW, *])
            go_wp2_with (go_at_call 61; refine (allow_any w.heap.size g m (0) (S) B 3 (none) (nw + y) _ HL.out (by omega) (by decide) (by omega) (by omega) HGW.out).mono ?_; rw [HA.out.1, HA.out.2]; rintro e W1 ⟨rfl, hl, hb⟩; have hbn := HB.out.trans hb; clear HB HL; have HB := Aside0.mk hbn; have HL := Aside0.mk hl; clear hl hb hbn)
            go_roundg (us.length - (0 + 1))
            case measure => have := hgh.out; omega
            case rel => exact ⟨0 + 1, nw + y, nw + y, 1, 0, some ⟨nw + y, 1, 0⟩, by go_num, by go_num, by go_num, by go_num, by go_num, by omega, by omega, by omega, by omega, by omega, by omega, by omega, by omega, by omega, by omega, by omega, ⟨.inr ⟨by omega, rfl⟩⟩, ⟨rfl⟩, HL, HB⟩
          ·
            have HA := Aside0.mk (show allowW B (baseW (S) (nw + y) (none)) = (false, ⟨nw + y, 0, 1⟩) ∧ toldW (S) (nw + y) (none) = 0 by constructor <;> simp [allowW, baseW, toldW, *])
            go_wp2_with (go_at_call 61; refine (allow_any w.heap.size g m (0) (S) B 3 (none) (nw + y) _ HL.out (by omega) (by decide) (by omega) (by omega) HGW.out).mono ?_; rw [HA.out.1, HA.out.2]; rintro e W1 ⟨rfl, hl, hb⟩; have hbn := HB.out.trans hb; clear HB HL; have HB := Aside0.mk hbn; have HL := Aside0.mk hl; clear hl hb hbn)
            go_roundg (us.length - (0 + 1))
            case measure => have := hgh.out; omega
            case rel => exact ⟨0 + 1, nw + y, nw + y, 0, 1, some ⟨nw + y, 0, 1⟩, by go_num, by go_num, by go_num, by go_num, by go_num, by omega, by omega, by omega, by omega, by omega, by omega, by omega, by omega, by omega, by omega, by omega, ⟨.inr ⟨by omega, rfl⟩⟩, ⟨rfl⟩, HL, HB⟩
        · have HGW := Aside0.mk (show goodW (nw + y) (some ⟨si, le, ba⟩) from fun x hx => by cases hx; exact ⟨hsi0, by show si ≤ nw + y; omega, hle0, by show le ≤ 1000; omega, hba0, by show ba ≤ 1000; omega⟩)
          by_cases hf : S ≤ nw + y - si
          · by_cases hB0 : 0 < B
            ·
              have HA := Aside0.mk (show allowW B (baseW (S) (nw + y) (some ⟨si, le, ba⟩)) = (true, ⟨nw + y, 1, 0⟩) ∧ toldW (S) (nw + y) (some ⟨si, le, ba⟩) = ba by constructor <;> simp [allowW, baseW, toldW, *])
              go_wp2_with (go_at_call 61; refine (allow_any w.heap.size g m (i) (S) B 3 (some ⟨si, le, ba⟩) (nw + y) _ HL.out (by omega) (by decide) (by omega) (by omega) HGW.out).mono ?_; rw [HA.out.1, HA.out.2]; rintro e W1 ⟨rfl, hl, hb⟩; have hbn := HB.out.trans hb; clear HB HL; have HB := Aside0.mk hbn; have HL := Aside0.mk hl; clear hl hb hbn)
              go_roundg (us.length - (i + 1))
              case measure => have := hgh.out; omega
              case rel => exact ⟨i + 1, nw + y, nw + y, 1, 0, some ⟨nw + y, 1, 0⟩, by go_num, by go_num, by go_num, by go_num, by go_num, by omega, by omega, by omega, by omega, by omega, by omega, by omega, by omega, by omega, by omega, by omega, ⟨.inr ⟨by omega, rfl⟩⟩, ⟨rfl⟩, HL, HB⟩
            ·
              have HA := Aside0.mk (show allowW B (baseW (S) (nw + y) (some ⟨si, le, ba⟩)) = (false, ⟨nw + y, 0, 1⟩) ∧ toldW (S) (nw + y) (some ⟨si, le, ba⟩) = ba by constructor <;> simp [allowW, baseW, toldW, *])
              go_wp2_with (go_at_call 61; refine (allow_any w.heap.size g m (i) (S) B 3 (some ⟨si, le, ba⟩) (nw + y) _ HL.out (by omega) (by decide) (by omega) (by omega) HGW.out).mono ?_; rw [HA.out.1, HA.out.2]; rintro e W1 ⟨rfl, hl, hb⟩; have hbn := HB.out.trans hb; clear HB HL; have HB := Aside0.mk hbn; have HL := Aside0.mk hl; clear hl hb hbn)
              go_roundg (us.length - (i + 1))
              case measure => have := hgh.out; omega
              case rel => exact ⟨i + 1, nw + y, nw + y, 0, 1, some ⟨nw + y, 0, 1⟩, by go_num, by go_num, by go_num, by go_num, by go_num, by omega, by omega, by omega, by omega, by omega, by omega, by omega, by omega, by omega, by omega, by omega, ⟨.inr ⟨by omega, rfl⟩⟩, ⟨rfl⟩, HL, HB⟩
          · have hwr : IntKind.u64.wrap (nw + y - si) = nw + y - si := by show (nw + y - si) % 18446744073709551616 = _; omega
            have hge : decide (S ≤ nw + y - si) = false := decide_eq_false hf
            by_cases hB0 : le < B
            ·
              have HA := Aside0.mk (show allowW B (baseW (S) (nw + y) (some ⟨si, le, ba⟩)) = (true, ⟨si, le + 1, ba⟩) ∧ toldW (S) (nw + y) (some ⟨si, le, ba⟩) = 0 by constructor <;> simp [allowW, baseW, toldW, *])
              go_wp2_with (go_at_call 61; refine (allow_any w.heap.size g m (i) (S) B 3 (some ⟨si, le, ba⟩) (nw + y) _ HL.out (by omega) (by decide) (by omega) (by omega) HGW.out).mono ?_; rw [HA.out.1, HA.out.2]; rintro e W1 ⟨rfl, hl, hb⟩; have hbn := HB.out.trans hb; clear HB HL; have HB := Aside0.mk hbn; have HL := Aside0.mk hl; clear hl hb hbn)
              go_roundg (us.length - (i + 1))
              case measure => have := hgh.out; omega
              case rel => exact ⟨i + 1, nw + y, si, le + 1, ba, some ⟨si, le + 1, ba⟩, by go_num, by go_num, by go_num, by go_num, by go_num, by omega, by omega, by omega, by omega, by omega, by omega, by omega, by omega, by omega, by omega, by omega, ⟨.inr ⟨by omega, rfl⟩⟩, ⟨rfl⟩, HL, HB⟩
            ·
              have HA := Aside0.mk (show allowW B (baseW (S) (nw + y) (some ⟨si, le, ba⟩)) = (false, ⟨si, le, ba + 1⟩) ∧ toldW (S) (nw + y) (some ⟨si, le, ba⟩) = 0 by constructor <;> simp [allowW, baseW, toldW, *])
              go_wp2_with (go_at_call 61; refine (allow_any w.heap.size g m (i) (S) B 3 (some ⟨si, le, ba⟩) (nw + y) _ HL.out (by omega) (by decide) (by omega) (by omega) HGW.out).mono ?_; rw [HA.out.1, HA.out.2]; rintro e W1 ⟨rfl, hl, hb⟩; have hbn := HB.out.trans hb; clear HB HL; have HB := Aside0.mk hbn; have HL := Aside0.mk hl; clear hl hb hbn)
              go_roundg (us.length - (i + 1))
              case measure => have := hgh.out; omega
              case rel => exact ⟨i + 1, nw + y, si, le, ba + 1, some ⟨si, le, ba + 1⟩, by go_num, by go_num, by go_num, by go_num, by go_num, by omega, by omega, by omega, by omega, by omega, by omega, by omega, by omega, by omega, by omega, by omega, ⟨.inr ⟨by omega, rfl⟩⟩, ⟨rfl⟩, HL, HB⟩
    · by_cases hl1 : i < us.length
      · have hl2 : ¬ i < 200 := by omega
        go_wp2_with (first
          | (go_at_call 61; refine (allow_nil _ _ _).mono ?_; rintro e w2 ⟨rfl, rfl⟩)
          | (go_at_call 63; refine (known_nil _).mono ?_; rintro e w2 ⟨rfl, rfl⟩)
          | (go_at_call 60; refine (awake38_any _).mono ?_; rintro e W9 ⟨rfl, hb⟩; have hbn := below_step HB.out hb; clear HB; have HB := Aside0.mk hbn; clear hb hbn))
        go_ret
        exact ⟨rfl, HB.out⟩
      ·
        go_wp2_with (first
          | (go_at_call 61; refine (allow_nil _ _ _).mono ?_; rintro e w2 ⟨rfl, rfl⟩)
          | (go_at_call 63; refine (known_nil _).mono ?_; rintro e w2 ⟨rfl, rfl⟩)
          | (go_at_call 60; refine (awake38_any _).mono ?_; rintro e W9 ⟨rfl, hb⟩; have hbn := below_step HB.out hb; clear HB; have HB := Aside0.mk hbn; clear hb hbn))
        go_ret
        exact ⟨rfl, HB.out⟩
end Go.Proofs.Ytldiginkmmlojaa
