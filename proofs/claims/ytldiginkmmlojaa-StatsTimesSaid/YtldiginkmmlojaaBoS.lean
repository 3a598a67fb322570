/- Boots: how they lie, four cells each. -/
import Derived.Test.YtldiginkmmlojaaBoP
import Derived.Laws.OwnMore
namespace Go.Proofs.Ytldiginkmmlojaa
set_option linter.unusedVariables false

def cB (b : BV) : List Value := [.int .u64 b.id, .int .u64 b.first, .int .u64 b.last, .int .i64 b.n]
def cellsB (l : List BV) : List Value := l.flatMap cB
theorem cellsB_snoc (l : List BV) (b : BV) : cellsB (l ++ [b]) = cellsB l ++ cB b := by simp [cellsB]
theorem cellsB_cons (b : BV) (l : List BV) : cellsB (b :: l) = cB b ++ cellsB l := by simp [cellsB]
theorem cellsB_get : ∀ (l : List BV) (i k : Nat), i < l.length → k < 4 → (cellsB l)[i * 4 + k]? = (cB (l.getD i zBV))[k]?
  | [], i, k, h, _ => by simp at h
  | b :: t, 0, k, _, hk => by
    rw [cellsB_cons, Nat.zero_mul, Nat.zero_add, List.getElem?_append_left (by simpa [cB] using hk)]
    rfl
  | b :: t, i + 1, k, h, hk => by
    rw [cellsB_cons, List.getElem?_append_right (by simp [cB]; omega), show (i + 1) * 4 + k - (cB b).length = i * 4 + k by simp [cB]; omega, cellsB_get t i k (by simpa using h) hk]
    rfl
theorem cellsB_set : ∀ (l : List BV) (i k : Nat) (u : Value) (b' : BV), i < l.length → k < 4 → (cB (l.getD i zBV)).set k u = cB b' → (cellsB l).set (i * 4 + k) u = cellsB (l.set i b')
  | [], i, k, u, b', h, _, _ => by simp at h
  | b :: t, 0, k, u, b', _, hk, hs => by
    rw [cellsB_cons, Nat.zero_mul, Nat.zero_add, List.set_append_left _ _ (by simpa [cB] using hk), List.set_cons_zero, cellsB_cons]
    have : (cB b).set k u = cB b' := hs
    rw [this]
  | b :: t, i + 1, k, u, b', h, hk, hs => by
    rw [cellsB_cons, List.set_append_right _ _ (by simp [cB]; omega), show (i + 1) * 4 + k - (cB b).length = i * 4 + k by simp [cB]; omega, cellsB_set t i k u b' (by simpa using h) hk hs, List.set_cons_succ, cellsB_cons]
theorem cellsB_len : ∀ l : List BV, (cellsB l).length = l.length * 4
  | [] => rfl
  | b :: t => by rw [cellsB_cons, List.length_append, cellsB_len t, List.length_cons]; simp [cB]; omega
theorem cells_next (l : List BV) (cs : List Value) (k : Nat) : (cellsB l ++ cs)[l.length * 4 + k]? = cs[k]? := by
  rw [List.getElem?_append_right (by rw [cellsB_len]; omega), cellsB_len, show l.length * 4 + k - l.length * 4 = k by omega]
/-- Where a map says that a boot stands. -/
def whereB (l : List BV) : Lit → Option Value
  | .int .u64 k => if atB l k < l.length then some (.int .i64 (atB l k : Nat)) else none
  | _ => none
theorem atB_congr : ∀ (l l' : List BV) (k : Int), l.map BV.id = l'.map BV.id → atB l k = atB l' k
  | [], [], _, _ => rfl
  | [], _ :: _, _, h => by simp at h
  | _ :: _, [], _, h => by simp at h
  | b :: t, b' :: t', k, h => by
    simp only [List.map_cons, List.cons.injEq] at h
    unfold atB
    rw [h.1, atB_congr t t' k h.2]
theorem hitB_ids (l : List BV) (i : Nat) (s : Int) : (hitB l i s).map BV.id = l.map BV.id := by
  unfold hitB
  apply List.ext_getElem
  · simp
  · intro j h1 h2
    simp only [List.getElem_map, List.getElem_set]
    split
    · rename_i e
      subst e
      simp only [List.getD_eq_getElem?_getD]
      rw [List.getElem?_eq_getElem (by simpa using h2)]
      rfl
    · rfl
theorem atB_hit (l : List BV) (i : Nat) (s k : Int) : atB (hitB l i s) k = atB l k := atB_congr _ _ _ (hitB_ids l i s)
theorem hitB_len (l : List BV) (i : Nat) (s : Int) : (hitB l i s).length = l.length := by unfold hitB; rw [List.length_set]
theorem whereB_hit (l : List BV) (i : Nat) (s : Int) : whereB (hitB l i s) = whereB l := by
  funext q
  unfold whereB
  split
  · rw [atB_hit, hitB_len]
  · rfl
theorem atB_snoc : ∀ (l : List BV) (b : BV) (k : Int), atB (l ++ [b]) k = if atB l k < l.length then atB l k else if b.id = k then l.length else l.length + 1
  | [], b, k => by simp [atB]
  | x :: t, b, k => by
    rw [List.cons_append]
    unfold atB
    rw [atB_snoc t b k]
    by_cases h : x.id = k
    · simp [h]
    · simp only [h, if_false, List.length_cons, Nat.add_lt_add_iff_right]
      split
      · rfl
      · split <;> rfl
open Classical in
theorem whereB_new (l : List BV) (x : RecW) (h : atB l x.1.boot = l.length) (q : Lit) : whereB (newB l x) q = if q = .int .u64 x.1.boot then some (.int .i64 (l.length : Nat)) else whereB l q := by
  unfold newB
  rw [if_pos h]
  by_cases e : q = .int .u64 x.1.boot
  · subst e
    rw [if_pos rfl]
    unfold whereB
    dsimp only
    have e2 : atB (l ++ [⟨x.1.boot, x.1.seq, x.1.seq, 0⟩]) x.1.boot = l.length := by rw [atB_snoc, if_neg (by omega), if_pos rfl]
    rw [e2, if_pos (by simp)]
  · rw [if_neg e]
    unfold whereB
    split
    · rename_i k
      have hk : x.1.boot ≠ k := fun e' => e (by rw [e'])
      rw [atB_snoc]
      simp only [List.length_append, List.length_singleton, hk, if_false]
      have := atB_le l k
      by_cases h2 : atB l k < l.length
      · rw [if_pos h2, if_pos h2, if_pos (by omega)]
      · rw [if_neg h2, if_neg h2, if_neg (by omega)]
    · rfl
end Go.Proofs.Ytldiginkmmlojaa
