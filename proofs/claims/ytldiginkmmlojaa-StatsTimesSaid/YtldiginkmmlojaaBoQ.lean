/- Entries whose numbers rise; where numbers are missing: lists alone. -/
import Derived.Test.YtldiginkmmlojaaBoB
import Derived.Test.YtldiginkmmlojaaBoP
namespace Go.Proofs.Ytldiginkmmlojaa
set_option linter.unusedVariables false

def sq (zs : List RecW) (j : Nat) : Int := (zs.getD j zRecW).1.seq
/-- The numbers rise, up to n. -/
def Rises (zs : List RecW) (n : Int) : Prop := (∀ j, j < zs.length → 0 ≤ sq zs j ∧ sq zs j ≤ n) ∧ ∀ j, j + 1 < zs.length → sq zs j < sq zs (j + 1)
theorem Rises.nil (n : Int) : Rises [] n := ⟨fun j h => by simp at h, fun j h => by simp at h⟩
theorem sq_left {zs : List RecW} {x : RecW} {j : Nat} (h : j < zs.length) : sq (zs ++ [x]) j = sq zs j := by
  unfold sq
  rw [List.getD_eq_getElem?_getD, List.getElem?_append_left h, ← List.getD_eq_getElem?_getD]
theorem sq_last (zs : List RecW) (x : RecW) : sq (zs ++ [x]) zs.length = x.1.seq := by
  unfold sq
  rw [List.getD_eq_getElem?_getD, List.getElem?_concat_length]
  rfl
theorem Rises.snoc {zs : List RecW} {n : Int} (h : Rises zs n) {x : RecW} (hx : n < x.1.seq) (hn : 0 ≤ n) : Rises (zs ++ [x]) x.1.seq := by
  refine ⟨fun j hj => ?_, fun j hj => ?_⟩
  · rw [List.length_append, List.length_singleton] at hj
    by_cases hl : j < zs.length
    · rw [sq_left hl]
      have := h.1 j hl
      omega
    · obtain rfl : j = zs.length := by omega
      rw [sq_last]
      omega
  · rw [List.length_append, List.length_singleton] at hj
    by_cases hl : j + 1 < zs.length
    · rw [sq_left hl, sq_left (by omega)]
      exact h.2 j hl
    · have e : zs.length = j + 1 := by omega
      rw [show sq (zs ++ [x]) (j + 1) = x.1.seq by rw [← e]; exact sq_last zs x, sq_left (by omega)]
      have := h.1 j (by omega)
      omega
/-- Where numbers are missing, as the reference tells it: behind the first k + 1 entries. -/
def gapK (zs : List RecW) : Nat → List Int
  | 0 => []
  | k + 1 => if sq zs (k + 1) = IntKind.u64.wrap (sq zs k + 1) then gapK zs k else gapK zs k ++ [sq zs k]
theorem gapK_succ (zs : List RecW) (k : Nat) : gapK zs (k + 1) = if sq zs (k + 1) = IntKind.u64.wrap (sq zs k + 1) then gapK zs k else gapK zs k ++ [sq zs k] := rfl
theorem wrapU {x : Int} (h0 : 0 ≤ x) (h1 : x < 18446744073709551616) : IntKind.u64.wrap x = x := by
  show x % 18446744073709551616 = x
  omega
theorem take_one (zs : List RecW) {k : Nat} (h : k < zs.length) : zs.take (k + 1) = zs.take k ++ [zs.getD k zRecW] := by
  rw [List.take_add_one, List.getElem?_eq_getElem h, List.getD_eq_getElem?_getD, List.getElem?_eq_getElem h]
  rfl
theorem gaps_at (zs : List RecW) (n : Int) (h : Rises zs n) (hn : n ≤ 1000000) : ∀ k, k < zs.length → gapsF (zs.take (k + 1)) = (gapK zs k, sq zs k, false)
  | 0, hk => by
    rw [take_one zs hk, gapsF_snoc]
    unfold stepG gapsF gapK sq
    simp
  | k + 1, hk => by
    rw [take_one zs hk, gapsF_snoc, gaps_at zs n h hn k (by omega)]
    have h1 := h.2 k hk
    have h2 := h.1 k (by omega)
    have h3 := h.1 (k + 1) hk
    rw [gapK_succ]
    unfold stepG
    dsimp only
    rw [show (zs.getD (k + 1) zRecW).1.seq = sq zs (k + 1) from rfl, wrapU (by omega) (by omega), wrapU (by omega) (by omega)]
    by_cases e : sq zs (k + 1) = sq zs k + 1
    · rw [if_neg (by omega), if_pos e]
    · rw [if_pos ⟨rfl, by omega⟩, if_neg e]
theorem gaps_all (zs : List RecW) (n : Int) (h : Rises zs n) (hn : n ≤ 1000000) : (gapsF zs).1 = gapK zs (zs.length - 1) := by
  cases hz : zs.length with
  | zero => rw [List.eq_nil_of_length_eq_zero hz]; rfl
  | succ m =>
    have := gaps_at zs n h hn m (by omega)
    rw [← hz, List.take_length] at this
    rw [this]
    rfl
/-- The reference's new boot: its last entry comes later. -/
def newB0 (l : List BV) (x : RecW) : List BV := if atB l x.1.boot = l.length then l ++ [⟨x.1.boot, x.1.seq, 0, 0⟩] else l
theorem hit_new (l : List BV) (x : RecW) : hitB (newB0 l x) (atB l x.1.boot) x.1.seq = stepB l x := by
  unfold stepB newB0 newB
  split
  · rename_i h
    unfold hitB
    rw [h]
    simp [List.getD_eq_getElem?_getD]
  · rfl
theorem atB_is : ∀ (l : List BV) (b : Int) (k : Nat), k ≤ l.length → (∀ j, j < k → (l.getD j zBV).id ≠ b) → (k = l.length ∨ (l.getD k zBV).id = b) → atB l b = k
  | [], b, k, hk, _, _ => by
    have : k = 0 := by simpa using hk
    subst this
    rfl
  | x :: t, b, k, hk, hno, hend => by
    unfold atB
    cases k with
    | zero =>
      rcases hend with h | h
      · simp at h
      · have : x.id = b := by simpa using h
        rw [if_pos this]
    | succ m =>
      have h0 := hno 0 (by omega)
      have h0' : x.id ≠ b := by simpa using h0
      rw [if_neg h0', atB_is t b m (by simpa using hk) (fun j hj => by have := hno (j + 1) (by omega); simpa using this) (by
        rcases hend with h | h
        · exact .inl (by simpa using h)
        · exact .inr (by simpa using h))]
theorem newB0_len (l : List BV) (x : RecW) : (newB0 l x).length ≤ l.length + 1 ∧ atB l x.1.boot < (newB0 l x).length := by
  unfold newB0
  have := atB_le l x.1.boot
  split
  · simp; omega
  · omega
end Go.Proofs.Ytldiginkmmlojaa
