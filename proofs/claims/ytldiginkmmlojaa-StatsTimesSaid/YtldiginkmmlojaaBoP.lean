/- Boots, lists alone: what a round of stats.Boots makes. -/
import Derived.Test.YtldiginkmmlojaaBoA
namespace Go.Proofs.Ytldiginkmmlojaa
open Go.RowKit
set_option linter.unusedVariables false

/-- A boot: its number, its first and its last entry, how many. -/
structure BV where
  id : Int
  first : Int
  last : Int
  n : Int
deriving DecidableEq
def zBV : BV := ⟨0, 0, 0, 0⟩
/-- Where a boot stands; the length: nowhere. -/
def atB : List BV → Int → Nat
  | [], _ => 0
  | b :: t, k => if b.id = k then 0 else atB t k + 1
theorem atB_le : ∀ (l : List BV) (k : Int), atB l k ≤ l.length
  | [], _ => Nat.le_refl _
  | b :: t, k => by unfold atB; split; exact Nat.zero_le _; exact Nat.succ_le_succ (atB_le t k)
/-- A boot more, if it is new. -/
def newB (l : List BV) (x : RecW) : List BV := if atB l x.1.boot = l.length then l ++ [⟨x.1.boot, x.1.seq, x.1.seq, 0⟩] else l
/-- One entry more of it. -/
def hitB (l : List BV) (i : Nat) (s : Int) : List BV := l.set i ⟨(l.getD i zBV).id, (l.getD i zBV).first, s, wrap64 ((l.getD i zBV).n + 1)⟩
def stepB (l : List BV) (x : RecW) : List BV := hitB (newB l x) (atB l x.1.boot) x.1.seq
def bootsF (l : List RecW) : List BV := l.foldl stepB []
theorem bootsF_snoc (l : List RecW) (x : RecW) : bootsF (l ++ [x]) = stepB (bootsF l) x := by unfold bootsF; rw [List.foldl_append]; rfl
theorem newB_len (l : List BV) (x : RecW) : (newB l x).length ≤ l.length + 1 := by
  unfold newB
  split
  · simp
  · omega
theorem stepB_len (l : List BV) (x : RecW) : (stepB l x).length ≤ l.length + 1 := by
  unfold stepB hitB
  rw [List.length_set]
  exact newB_len l x
theorem atB_new (l : List BV) (x : RecW) : atB l x.1.boot < (newB l x).length := by
  unfold newB
  have := atB_le l x.1.boot
  split
  · simp; omega
  · omega
theorem bootsF_len (l : List RecW) : (bootsF l).length ≤ l.length := by
  have h : ∀ (l : List RecW) (s : List BV), (l.foldl stepB s).length ≤ s.length + l.length := by
    intro l
    induction l with
    | nil => intro s; simp
    | cons p t ih =>
      intro s
      rw [List.foldl_cons]
      have := ih (stepB s p)
      have h2 := stepB_len s p
      simp only [List.length_cons]
      omega
  unfold bootsF
  simpa using h l []
end Go.Proofs.Ytldiginkmmlojaa
