/- Maps of whatever elements: a map is a function from keys to values. -/
import Derived.Test.YtldiginkmmlojaaProg
import Derived.Maps.OwnSet
import Derived.Maps.RangeWalk
import Derived.WalkKit
namespace Go.Proofs.Ytldiginkmmlojaa
set_option linter.unusedVariables false
open Go.RowKit Go.Maps

/-- Any element, as it stands. -/
def R0 (v : Value) : Option (DataW Value × List MemPlace) := some (.held v, [])
/-- D is the map that the function says. -/
def Tells (D : DataW Value) (f : Lit → Option Value) : Prop := ∀ (kl : Lit) (z : DataW Value), D.atKey kl z = (match f kl with | some v => .held v | none => z)
/-- Block b is a map of at most n entries: it holds what f says. -/
def MV (w : World) (P : Program) (k : TypeId) (b n : Nat) (f : Lit → Option Value) : Prop := ∃ D : DataW Value, w.ownsMap P k R0 b n D ∧ Tells D f
open Classical in
/-- An entry more, or an entry less. -/
noncomputable def upd (f : Lit → Option Value) (kl : Lit) (v : Option Value) : Lit → Option Value := fun q => if q = kl then v else f q
theorem upd_same (f : Lit → Option Value) (kl : Lit) (v : Option Value) : upd f kl v kl = v := by simp [upd]
theorem upd_other (f : Lit → Option Value) {kl q : Lit} (v : Option Value) (h : q ≠ kl) : upd f kl v q = f q := by simp [upd, h]
theorem Tells.has {D : DataW Value} {f : Lit → Option Value} (h : Tells D f) (kl : Lit) : Maps.has D kl = (f kl).isSome := by
  cases e : f kl with
  | none => exact has_false_of_atKey (fun z => by rw [h kl z, e])
  | some v => exact has_true_of_atKey (y := .held v) (fun z => by rw [h kl z, e])
theorem Tells.put {D : DataW Value} {f : Lit → Option Value} (h : Tells D f) (hm : IsMap D) {kl : Lit} (hk : WideAt.IsKeyLit kl) (v : Value) : Tells (D.put kl (.held v)) (upd f kl (some v)) := by
  intro q z
  by_cases e : q = kl
  · subst e
    rw [upd_same, atKey_put_same hm hk]
  · rw [upd_other _ _ e, atKey_put_other e, h q z]
theorem Tells.del {D : DataW Value} {f : Lit → Option Value} (h : Tells D f) (kl : Lit) : Tells (D.del kl) (upd f kl none) := by
  intro q z
  by_cases e : q = kl
  · subst e
    rw [upd_same, atKey_del_same]
  · rw [upd_other _ _ e, atKey_del_other e, h q z]
theorem key_lit {P : Program} {k : TypeId} {v : Value} {kl : Lit} (h : keyOf P k v = some kl) : WideAt.IsKeyLit kl := by
  unfold keyOf at h
  split at h
  · split at h
    · obtain ⟨ls, _, rfl⟩ := Option.map_eq_some_iff.1 h
      exact trivial
    · cases h
  · split at h
    · obtain ⟨ls, _, rfl⟩ := Option.map_eq_some_iff.1 h
      exact trivial
    · cases h
  · obtain ⟨_, _, _, h2⟩ := Go.WideShapes.mapKey_isKey h
    exact h2
section
variable {w w1 : World} {P : Program} {k : TypeId} {b n : Nat} {f : Lit → Option Value}
theorem MV.made (w : World) (P : Program) (k : TypeId) : MV (w.alloc (.map #[] 0)) P k w.heap.size 0 (fun _ => none) := ⟨_, World.ownsMap_made w P k R0, fun _ _ => rfl⟩
theorem MV.mono (h : MV w P k b n f) {m : Nat} (hm : n ≤ m) : MV w P k b m f := by obtain ⟨D, h1, h2⟩ := h; exact ⟨D, h1.mono hm, h2⟩
theorem MV.lt (h : MV w P k b n f) : b < w.heap.size := by obtain ⟨D, h1, h2⟩ := h; exact h1.lt
theorem MV.move (h : MV w P k b n f) (e : w1.heap[b]? = w.heap[b]?) : MV w1 P k b n f := by
  obtain ⟨D, ⟨es, clock, hb, h1⟩, h2⟩ := h
  exact ⟨D, ⟨es, clock, e.trans hb, h1⟩, h2⟩
theorem MV.below (h : MV w P k b n f) (hb : Below w.heap.size w w1) : MV w1 P k b n f := h.move (hb.block b h.lt)
theorem MV.drew (h : MV w P k b n f) : MV w.drew P k b n f := h
theorem MV.setCell (h : MV w P k b n f) {a : Addr} (ha : b ≠ a.block) (u : Value) : MV (w.setCell a u) P k b n f := h.move (Below.heap_setCell w a u b ha)
theorem MV.obj (h : MV w P k b n f) : ∃ es clock, w.heap[b]? = some (.map es clock) := by
  obtain ⟨D, ⟨es, clock, hb, h1⟩, h2⟩ := h
  exact ⟨es, clock, hb⟩
theorem MV.ne (h : MV w P k b n f) {g : Nat} {cs : Array Value} {t : TypeId} {fr : Nat × Nat} (hg : w.heap[g]? = some (.cells cs t fr)) : b ≠ g := by
  intro e
  obtain ⟨es, clock, hb⟩ := h.obj
  rw [e, hg] at hb
  cases hb
theorem MV.congr (h : MV w P k b n f) {f' : Lit → Option Value} (e : ∀ q, f' q = f q) : MV w P k b n f' := by rwa [show f' = f from funext e]
end
section
variable {P : Program} {w : World} {ops : Array Oper} {rest : List Oper} {o : Oper} {a : Act} {Q : Exit → Act → World → Prop}
/-- v, ok := m[k]. -/
theorem mv_lookup_ok (hg : o.guard = none) (m x : Operand) (t : TypeId) (hop : o.op = Op.lookup t m x true) (k e : TypeId) (K : Keyed P k) (ht : P.underlying t = some (.map k e)) {z : Value} (hz : (zeroValue e).run P w = .ok z w) (b n : Nat) (f : Lit → Option Value)
    (hm : a.eval m = .map (some b)) (h : MV w P k b n f) (key : Value) (kl : Lit) (hx : a.eval x = key) (hkey : keyOf P k key = some kl) (v : Value) (bo : Bool) (hv : (f kl).getD z = v) (hb : (f kl).isSome = bo)
    (hK : wpList P ops Q rest (a.put o.dst (.tuple #[v, .bool bo])) w) : wpList P ops Q (o :: rest) a w := by
  obtain ⟨D, h1, h2⟩ := h
  refine wpList_lookup_own_ok w hg m x t hop k e K ht R0 hz (.held z) [] rfl b n D hm h1 key kl hx hkey (fun v' ps hv' => ?_)
  have e1 : v' = v := by
    have := congrArg (Option.map Prod.fst) hv'
    simp only [R0, Option.map_some, Option.some.injEq] at this
    rw [h2 kl] at this
    rw [← hv]
    cases e : f kl with
    | none => rw [e] at this; simpa using this
    | some y => rw [e] at this; simpa using this
  rw [e1, h2.has kl, hb]
  exact hK
/-- m[k]. -/
theorem mv_lookup (hg : o.guard = none) (m x : Operand) (t : TypeId) (hop : o.op = Op.lookup t m x false) (k e : TypeId) (K : Keyed P k) (ht : P.underlying t = some (.map k e)) {z : Value} (hz : (zeroValue e).run P w = .ok z w) (b n : Nat) (f : Lit → Option Value)
    (hm : a.eval m = .map (some b)) (h : MV w P k b n f) (key : Value) (kl : Lit) (hx : a.eval x = key) (hkey : keyOf P k key = some kl) (v : Value) (hv : (f kl).getD z = v)
    (hK : wpList P ops Q rest (a.put o.dst v) w) : wpList P ops Q (o :: rest) a w := by
  obtain ⟨D, h1, h2⟩ := h
  refine wpList_plain hg fun K' hK' => ?_
  obtain ⟨v', ps, hrun, hv'⟩ := h1.lookup K ht hz (zd := .held z) (zp := []) rfl hkey
  have e1 : v' = v := by
    have := congrArg (Option.map Prod.fst) hv'
    simp only [R0, Option.map_some, Option.some.injEq] at this
    rw [h2 kl] at this
    rw [← hv]
    cases e : f kl with
    | none => rw [e] at this; simpa using this
    | some y => rw [e] at this; simpa using this
  rw [e1] at hrun
  unfold Oper.wp
  simp [execOp, hop, hm, hx, hrun, Result.andThen]
  exact hK' _ _ hK
/-- delete(m, k). -/
theorem mv_delete (hg : o.guard = none) (m x : Operand) (t k : TypeId) (hop : o.op = Op.call { callee := Callee.builtin Builtin.delete, args := #[m, x], argTypes := #[t, k] }) (e : TypeId) (K : Keyed P k) (ht : P.underlying t = some (.map k e)) (b n : Nat) (f : Lit → Option Value)
    (hm : a.eval m = .map (some b)) (h : MV w P k b n f) (key : Value) (kl : Lit) (hx : a.eval x = key) (hkey : keyOf P k key = some kl)
    (hK : ∀ w', MV w' P k b n (upd f kl none) → w.mapTurned w' b → wpList P ops Q rest (a.put o.dst (.tuple #[])) w') : wpList P ops Q (o :: rest) a w := by
  obtain ⟨D, h1, h2⟩ := h
  exact wpList_delete_own w hg m x t k hop e K ht R0 b n D hm h1 key kl hx hkey (fun w' r1 r2 => hK w' ⟨_, r1, h2.del kl⟩ r2)
/-- m[k] = v. -/
theorem mv_store (hg : o.guard = none) (m x v : Operand) (t : TypeId) (hop : o.op = Op.mapUpdate t m x v) (k e : TypeId) (K : Keyed P k) (ht : P.underlying t = some (.map k e)) (b n : Nat) (f : Lit → Option Value)
    (hm : a.eval m = .map (some b)) (h : MV w P k b n f) (hn : n < maxLen) (key val : Value) (kl : Lit) (hx : a.eval x = key) (hv : a.eval v = val) (hkey : keyOf P k key = some kl)
    (hK : ∀ w', MV w' P k b (n + 1) (upd f kl (some val)) → w.mapTurned w' b → wpList P ops Q rest (a.put o.dst undef) w') : wpList P ops Q (o :: rest) a w := by
  obtain ⟨D, h1, h2⟩ := h
  exact wpList_mapUpdate_in w hg m x v t hop k e K ht R0 b n D hm h1 hn key val kl hx hv hkey (.held val) [] rfl (fun w' r1 r2 => hK w' ⟨_, r1, h2.put h1.isMap (key_lit hkey) val⟩ r2)
end
/-- A map that is ranged over. -/
def MR (w : World) (P : Program) (k : TypeId) (b r n : Nat) (f : Lit → Option Value) (left : Lit → Bool) (cnt : Nat) : Prop := ∃ D : DataW Value, w.ranges P k R0 b r n D left cnt ∧ Tells D f
section
variable {w w1 : World} {P : Program} {k : TypeId} {b r n cnt : Nat} {f : Lit → Option Value} {left : Lit → Bool}
theorem MR.owns (h : MR w P k b r n f left cnt) : MV w P k b n f := by obtain ⟨D, h1, h2⟩ := h; exact ⟨D, h1.owns, h2⟩
theorem MR.left_eq (h : MR w P k b r n f left cnt) : w.rangeLeft b r = cnt := by obtain ⟨D, h1, h2⟩ := h; exact h1.left_eq
theorem MR.ne (h : MR w P k b r n f left cnt) : r ≠ b := by obtain ⟨D, h1, h2⟩ := h; exact h1.ne
theorem MR.lt (h : MR w P k b r n f left cnt) : r < w.heap.size := by obtain ⟨D, h1, h2⟩ := h; exact h1.lt
theorem MR.kept {row : Option Nat} (h : MR w P k b r n f left cnt) (hg : w.grownBy w1 row) (hb : some b ≠ row) (hr : some r ≠ row) : MR w1 P k b r n f left cnt := by obtain ⟨D, h1, h2⟩ := h; exact ⟨D, h1.kept hg hb hr, h2⟩
end
section
variable {P : Program} {w : World} {ops : Array Oper} {rest : List Oper} {o : Oper} {a : Act} {Q : Exit → Act → World → Prop}
theorem mv_range (hg : o.guard = none) (m : Operand) (t : TypeId) (hop : o.op = Op.range t m) (k e : TypeId) (K : Keyed P k) (ht : P.underlying t = some (.map k e)) (b n : Nat) (f : Lit → Option Value) (hm : a.eval m = .map (some b)) (h : MV w P k b n f)
    (hK : ∀ w' cnt, cnt ≤ n → MR w' P k b w.heap.size n f (fun q => (f q).isSome) cnt → w.grownBy w' none → w'.heap.size = w.heap.size + 1 → wpList P ops Q rest (a.put o.dst (.pointer (some ⟨w.heap.size, 0, none⟩))) w') : wpList P ops Q (o :: rest) a w := by
  obtain ⟨D, h1, h2⟩ := h
  exact wpList_range_own w hg m t hop k e K ht R0 b n D hm h1 (fun w' r1 r2 r3 => hK w' _ h1.size_le ⟨D, by rwa [show Maps.has D = fun q => (f q).isSome from funext h2.has] at r1, h2⟩ r2 r3)
/-- The step; keys of a shape. -/
theorem mv_next {α : Type} (hg : o.guard = none) (it : Operand) (hop : o.op = Op.next it false) (k : TypeId) (K : Keyed P k) (mkK : α → Value) (invK : ∀ key kl, keyOf P k key = some kl → ∃ x, key = mkK x) (b r n : Nat) (f : Lit → Option Value) (left : Lit → Bool) (cnt : Nat)
    (hit : a.eval it = .pointer (some ⟨r, 0, none⟩)) (h : MR w P k b r n f left cnt)
    (hDone : (∀ kl, left kl = false) → wpList P ops Q rest (a.put o.dst (.tuple #[.bool false])) w)
    (hMore : ∀ (x : α) (v : Value) (kl : Lit) (w' : World) (cnt' : Nat), keyOf P k (mkK x) = some kl → left kl = true → f kl = some v → MR w' P k b r n f (fun z => left z && !z.sameKey kl) cnt' → cnt' < cnt →
      w.grownBy w' (some r) → w'.heap.size = w.heap.size → (Instr.entry (.pointer (some ⟨r, 0, none⟩))).run P w' = .ok (.tuple #[mkK x, v]) w' → wpList P ops Q rest (a.put o.dst (.tuple #[.bool true, mkK x, v])) w') : wpList P ops Q (o :: rest) a w := by
  obtain ⟨D, h1, h2⟩ := h
  refine wpList_next_ranges w hg it hop k K R0 mkK (fun v : Value => v) invK (fun v _ _ => ⟨v, rfl⟩) b r n D left cnt hit h1 (fun _ hl => hDone hl) (fun x v kl y w' cnt' hk hl hv hat hr hlt hg hs he => ?_)
  have e1 : f kl = some v := by
    have h3 := hat (.held (.bool true))
    have h4 := hat (.held (.bool false))
    simp only [R0, Option.some.injEq] at hv
    subst hv
    rw [h2 kl] at h3 h4
    cases e : f kl with
    | none => rw [e] at h3 h4; simp at h3 h4; rw [← h3] at h4; simp at h4
    | some u => rw [e] at h3; simp at h3; rw [h3]
  exact hMore x v kl w' cnt' hk hl e1 ⟨D, hr, h2⟩ hlt hg hs he
end
end Go.Proofs.Ytldiginkmmlojaa
