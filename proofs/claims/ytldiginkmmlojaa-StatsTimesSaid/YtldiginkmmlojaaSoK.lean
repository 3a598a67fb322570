/- Sorting numbers: the round of pdqsort, told plainly. -/
import Derived.Test.YtldiginkmmlojaaSoJ
namespace Go.Proofs.Ytldiginkmmlojaa
set_option linter.unusedVariables false
set_option linter.unusedSimpArgs false
open Go.RowKit Go.Proofs.YtldiginkmmlojaaW.PrintWords
open Go.Sort (swp ltInt pdq insertionSort heapSort breakPatterns choosePivot partialInsertionSort partition partitionEqual Hint swo_ltInt)

theorem pdq_small {d : Array Int} {a b lim : Nat} {wb wp : Bool} (h : b - a ≤ 12) : pdq ltInt d a b lim wb wp = insertionSort ltInt d a b := by
  rw [Sort.pdq, if_pos h]
theorem pdq_heap {d : Array Int} {a b : Nat} {wb wp : Bool} (h : ¬ b - a ≤ 12) : pdq ltInt d a b 0 wb wp = heapSort ltInt d a b := by
  rw [Sort.pdq, if_neg h, if_pos rfl]
theorem pdq_rd {d d2 : Array Int} {a b lim lim2 p : Nat} {wb wp : Bool} {h : Hint} (h12 : ¬ b - a ≤ 12) (hl : ¬ lim = 0) (hd2 : d2 = if (!wb) = true then breakPatterns d a b else d) (hlim2 : lim2 = if (!wb) = true then lim - 1 else lim)
    (hc : choosePivot ltInt d2 a b = (p, h)) (hh : h ≠ .decreasing) (hps : (partialInsertionSort ltInt d2 a b).1 = d2) :
    pdq ltInt d a b lim wb wp = if ((wb && wp && decide (h = .increasing)) && (partialInsertionSort ltInt d2 a b).2) = true then d2 else
      if (decide (0 < a) && !ltInt d2[a - 1]! d2[p]!) = true then
        (if a < (partitionEqual ltInt d2 a b p).1 ∧ (partitionEqual ltInt d2 a b p).1 ≤ b then pdq ltInt (partitionEqual ltInt d2 a b p).2 (partitionEqual ltInt d2 a b p).1 b lim2 wb wp else (partitionEqual ltInt d2 a b p).2)
      else
        (if a ≤ (partition ltInt d2 a b p).1 ∧ (partition ltInt d2 a b p).1 < b then
          (if (partition ltInt d2 a b p).1 - a < b - (partition ltInt d2 a b p).1 then
            pdq ltInt (pdq ltInt (partition ltInt d2 a b p).2.2 a (partition ltInt d2 a b p).1 lim2 true true) ((partition ltInt d2 a b p).1 + 1) b lim2 (decide ((partition ltInt d2 a b p).1 - a ≥ (b - a) / 8)) (partition ltInt d2 a b p).2.1
          else
            pdq ltInt (pdq ltInt (partition ltInt d2 a b p).2.2 ((partition ltInt d2 a b p).1 + 1) b lim2 true true) a (partition ltInt d2 a b p).1 lim2 (decide (b - (partition ltInt d2 a b p).1 ≥ (b - a) / 8)) (partition ltInt d2 a b p).2.1)
        else (partition ltInt d2 a b p).2.2) := by
  rw [Sort.pdq, if_neg h12, if_neg hl]
  simp only [← hd2, ← hlim2, hc, if_neg hh]
  have hpi : (if (wb && wp && decide (h = .increasing)) = true then partialInsertionSort ltInt d2 a b else (d2, false)) = (d2, (wb && wp && decide (h = .increasing)) && (partialInsertionSort ltInt d2 a b).2) := by
    cases hb : (wb && wp && decide (h = .increasing)) with
    | true => rw [if_pos rfl, Bool.true_and]; exact Prod.ext hps rfl
    | false => rw [if_neg Bool.false_ne_true, Bool.false_and]
  rw [hpi]
  simp only
  split
  · rfl
  · split
    · generalize partitionEqual ltInt d2 a b p = E
      obtain ⟨m, d4⟩ := E
      simp only
      split
      · rfl
      · rfl
    · generalize partition ltInt d2 a b p = E
      obtain ⟨m, ap, d4⟩ := E
      simp only
      split
      · rfl
      · rfl
theorem peq_range (d : Array Int) {a b p : Nat} (hap : a ≤ p) (hpb : p < b) (hb : b ≤ d.size) : a < (partitionEqual ltInt d a b p).1 ∧ (partitionEqual ltInt d a b p).1 ≤ b := by
  have hb0 : b ≤ (swp d a p).size := by rw [Sort.size_swp]; exact hb
  obtain ⟨r1, r2, _⟩ := Sort.partEqLoop_spec ltInt a b _ (a + 1) (b - 1) (swp d a p) (Nat.le_refl _) (Nat.lt_succ_self a) (by omega) (by omega) hb0 (fun t h1 h2 => by omega) (fun t h1 h2 => by omega)
  exact ⟨r1, r2⟩
theorem part_range (d : Array Int) {a b p : Nat} (hap : a ≤ p) (hpb : p < b) (hb : b ≤ d.size) : a ≤ (partition ltInt d a b p).1 ∧ (partition ltInt d a b p).1 < b := by
  have h := Sort.partition_holds (lt := ltInt) swo_ltInt d a b p hap hpb hb
  exact ⟨h.1, h.2.1⟩
end Go.Proofs.Ytldiginkmmlojaa
