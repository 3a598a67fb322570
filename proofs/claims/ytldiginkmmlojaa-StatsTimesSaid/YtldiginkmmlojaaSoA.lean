/- Sorting numbers: the row in memory; less. -/
import Derived.Test.YtldiginkmmlojaaStC
import Derived.Sort.AssemblyPlain
import Derived.Deep.Cut
import Derived.BigQuiet
namespace Go.Proofs.Ytldiginkmmlojaa
set_option linter.unusedVariables false
open Go.RowKit Go.Proofs.YtldiginkmmlojaaW.PrintWords
open Go.Sort (swp ltInt swp_size swp_get)

/-- The row that is sorted. -/
structure DR (W : World) (base g n c : Nat) (d : Array Int) : Prop where
  row : Kd.R (Kd.int .u64) 37 W base (fun _ => True) (.slice (some ⟨g, 0, none⟩) n c) d.toList
  sz : d.size = n
theorem DR.below {W W' : World} {base g n c : Nat} {d : Array Int} (h : DR W base g n c d) (hb : Below W.heap.size W W') : DR W' base g n c d := ⟨Kd.R_below h.row hb, h.sz⟩
theorem DR.drewN {W : World} {base g n c : Nat} {d : Array Int} (h : DR W base g n c d) (k : Nat) : DR (W.drewN k) base g n c d := h.below (pw_below_drewN (Below.refl _ _) _)
theorem DR.drew {W : World} {base g n c : Nat} {d : Array Int} (h : DR W base g n c d) : DR W.drew base g n c d := h.below (below_drew1 (Below.refl _ _))
theorem DR.at {W : World} {base g n c : Nat} {d : Array Int} (h : DR W base g n c d) {i : Nat} (hi : i < n) : W.cell? ⟨g, i, none⟩ = some (.int .u64 d[i]!) ∧ W.frozen? ⟨g, i, none⟩ = false := by
  have h1 := Kd.R_celln (0 : Int) h.row (i : Int) (by omega) (by omega)
  rw [Int.toNat_natCast] at h1
  refine ⟨?_, h1.2⟩
  have e : rdOf (0 : Int) d.toList (i : Int) = d[i]! := by
    have hs := h.sz
    unfold rdOf
    rw [Int.toNat_natCast, List.getD_eq_getElem?_getD, Array.getElem?_toList, getElem!_pos d i (by omega), Array.getElem?_eq_getElem (by omega)]
    rfl
  rw [← e]
  exact h1.1
theorem DR.gb {W : World} {base g n c : Nat} {d : Array Int} (h : DR W base g n c d) : base ≤ g := Kd.R_base h.row g rfl
theorem DR.put {W : World} {base g n c : Nat} {d : Array Int} (h : DR W base g n c d) (i : Nat) (x : Int) : DR (W.setCell ⟨g, i, none⟩ (.int .u64 x)) base g n c (d.setIfInBounds i x) := by
  have h1 := Kd.R_putn h.row (i : Int) x
  rw [Int.toNat_natCast, ← Array.toList_setIfInBounds] at h1
  exact ⟨h1, by rw [Array.size_setIfInBounds]; exact h.sz⟩
theorem DR.swp {W : World} {base g n c : Nat} {d : Array Int} (h : DR W base g n c d) (i j : Nat) : DR ((W.setCell ⟨g, i, none⟩ (.int .u64 d[j]!)).setCell ⟨g, j, none⟩ (.int .u64 d[i]!)) base g n c (Sort.swp d i j) := (h.put i _).put j _
theorem DR.low {w W : World} {base g n c : Nat} {d : Array Int} (h : DR W base g n c d) (hb : Below base w W) (i j : Nat) (x y : Value) : Below base w ((W.setCell ⟨g, i, none⟩ x).setCell ⟨g, j, none⟩ y) := (hb.setCell (p := ⟨g, i, none⟩) h.gb _).setCell (p := ⟨g, j, none⟩) h.gb _
theorem DR.sw3 {W : World} {base g n c : Nat} {d : Array Int} {x y : Int} (h : DR W base g n c d) (i j : Nat) (hxy : x = d[i]! ∧ y = d[j]!) : DR ((W.setCell ⟨g, i, none⟩ (.int .u64 y)).setCell ⟨g, j, none⟩ (.int .u64 x)).drew base g n c (Sort.swp d i j) := by
  rw [hxy.1, hxy.2]
  exact (h.swp i j).drew
theorem DR.low3 {w W : World} {base g n c : Nat} {d : Array Int} (h : DR W base g n c d) (hb : Below base w W) (i j : Nat) (x y : Int) : Below base w ((W.setCell ⟨g, i, none⟩ (.int .u64 y)).setCell ⟨g, j, none⟩ (.int .u64 x)).drew := below_drew1 (h.low hb i j _ _)
theorem nan_any (x : Int) (w : World) : Calls Try.prog 125 #[.int .u64 x] w fun e w' => e = .returned (.bool false) ∧ w' = w := by
  go_enter Try.func125, Try.ntmps125
  go_wp2
  go_ret
  exact ⟨by simp, rfl⟩
theorem less_any (x y : Int) (w : World) : Calls Try.prog 106 #[.int .u64 x, .int .u64 y] w fun e w' => e = .returned (.bool (ltInt x y)) ∧ w' = w := by
  go_enter Try.func106, Try.ntmps106
  go_wp2_with (go_at_call 125; refine (nan_any _ _).mono ?_; rintro e w' ⟨rfl, rfl⟩)
  go_ret
  exact ⟨rfl, rfl⟩
end Go.Proofs.Ytldiginkmmlojaa
