/- Files, lists alone: what a write, another size and a crash make of a file. -/
import Derived.Test.YtpnbjpkdbiiogaaSecK
import Derived.Test.YtpnbjpkdbiiogaaSecJ
namespace Go.Proofs.Ytpnbjpkdbiiogaa
set_option linter.unusedVariables false
open Go.RowKit Go.Proofs.YtpnbjpkdbiiogaaW.PrintWords

/-- Something that isn't safe. -/
structure FOp where
  sz : Bool
  n : Int
  d : List Int
def zOp : FOp := ⟨false, 0, []⟩
def kOp : Kd FOp := Kd.iso (Kd.pair Kd.bool (Kd.pair (Kd.int .i64) (Kd.slice 5 (Kd.int .u8)))) (fun x : FOp => (x.sz, x.n, x.d))
theorem kOp_mkM (w : World) (base : Nat) (ok : Nat → Prop) (x : FOp) {v2 : Value} (g2 : (Kd.int .u8).R 5 w base ok v2 x.d) : kOp.M w base ok x [.bool x.sz, .int .i64 x.n, v2] :=
  ⟨[.bool x.sz], [.int .i64 x.n, v2], rfl, rfl, ⟨[.int .i64 x.n], [v2], rfl, rfl, ⟨v2, rfl, g2⟩⟩⟩

/-- A piece is put. -/
def putF (s : List Int × List FOp) (p : Pc) : List Int × List FOp := (setL s.1 p.s (layL (atL s.1 p.s) p.f p.d), s.2 ++ [⟨false, p.s, layL (atL s.1 p.s) p.f p.d⟩])
/-- The file has room for a write. -/
def growF (s : List Int × List FOp) (k : Nat) (n : Nat) : List Int × List FOp := if 0 < n ∧ s.1.length < k + n then (sizeL s.1 ((k + n : Nat) : Int), s.2 ++ [⟨true, ((k + n : Nat) : Int), []⟩]) else s
def writeF (s : List Int × List FOp) (k : Nat) (b : List Int) : List Int × List FOp := (pieces k b).foldl putF (growF s k b.length)
def sizeF (s : List Int × List FOp) (n : Int) : List Int × List FOp := if n = s.1.length then s else (sizeL s.1 n, s.2 ++ [⟨true, n, []⟩])
def keepF (b : List Int) (o : FOp) : List Int := if o.sz then sizeL b o.n else setL b o.n o.d
/-- What a crash leaves, of the first i things. -/
def crashF (safe : List Int) (ops : List FOp) (keep : List Bool) : Nat → List Int
  | 0 => safe
  | i + 1 => if keep.getD i false then keepF (crashF safe ops keep i) (ops.getD i zOp) else crashF safe ops keep i

theorem lay_at (out : List Int) (a : Nat) (d : List Int) (h : a % 64 + d.length ≤ 64) (h2 : a + d.length ≤ out.length) (hpos : 0 < d.length) : layL (atL out ((a : Int) / 64)) ((a : Int) % 64) d = atL (overlay out a d) ((a : Int) / 64) := by
  have hk : 0 ≤ (a : Int) / 64 ∧ (a : Int) / 64 < cnt out.length := by
    unfold cnt
    split <;> omega
  have e64 : ((a : Int) / 64 * 64).toNat = a / 64 * 64 := by omega
  have lo : (overlay out a d).length = out.length := overlay_length (by omega)
  have e2 : atL out ((a : Int) / 64) = sizeL (out.drop (a / 64 * 64)) 64 := by
    unfold atL
    rw [if_pos hk, e64]
  have e4 : atL (overlay out a d) ((a : Int) / 64) = sizeL ((overlay out a d).drop (a / 64 * 64)) 64 := by
    unfold atL
    rw [if_pos (by rw [lo]; exact hk), e64]
  have e3 : layL (atL out ((a : Int) / 64)) ((a : Int) % 64) d = overlay (sizeL (out.drop (a / 64 * 64)) 64) (a % 64) d := by
    unfold layL
    rw [if_pos (by omega), sizeL_own _ _ (by rw [atL_length]; rfl), e2, show ((a : Int) % 64).toNat = a % 64 by omega]
  rw [e3, e4]
  have l1 : (sizeL (out.drop (a / 64 * 64)) 64).length = 64 := sizeL_length _ _
  apply List.ext_getElem?
  intro i
  rw [overlay_get (by omega), l1, sizeL_get, sizeL_get]
  by_cases c0 : i < (64 : Int).toNat
  · rw [if_pos c0, if_pos c0, List.getD_eq_getElem?_getD, List.getElem?_drop, List.getD_eq_getElem?_getD, List.getElem?_drop, overlay_get (by omega)]
    have c0' : i < 64 := c0
    by_cases c2 : a % 64 ≤ i ∧ i < a % 64 + d.length
    · rw [if_pos (by omega), if_pos (by omega), show a / 64 * 64 + i - a = i - a % 64 by omega, List.getElem?_eq_getElem (by omega)]
      rfl
    · rw [if_neg (by omega), if_neg (by omega)]
  · have c0' : ¬ i < 64 := c0
    rw [if_neg c0, if_neg c0, if_neg (by omega)]
theorem putF_at (now : List Int) (ops : List FOp) (a : Nat) (d : List Int) (h : a % 64 + d.length ≤ 64) (h2 : a + d.length ≤ now.length) (hpos : 0 < d.length) : putF (now, ops) ⟨(a : Int) / 64, (a : Int) % 64, d⟩ = (overlay now a d, ops ++ [⟨false, (a : Int) / 64, atL (overlay now a d) ((a : Int) / 64)⟩]) := by
  have h1 := put1_eq now a d d.length rfl h h2 hpos
  have h3 := lay_at now a d h h2 hpos
  unfold put1 at h1
  show (setL now ((a : Int) / 64) (layL (atL now ((a : Int) / 64)) ((a : Int) % 64) d), ops ++ [⟨false, (a : Int) / 64, layL (atL now ((a : Int) / 64)) ((a : Int) % 64) d⟩]) = _
  rw [h3] at h1 ⊢
  rw [h1]
end Go.Proofs.Ytpnbjpkdbiiogaa
