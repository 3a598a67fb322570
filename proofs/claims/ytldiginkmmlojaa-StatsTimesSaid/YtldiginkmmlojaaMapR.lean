/- Maps of whatever elements: what their operations run to. -/
import Derived.Test.YtldiginkmmlojaaMap
namespace Go.Proofs.Ytldiginkmmlojaa
set_option linter.unusedVariables false
open Go.RowKit Go.Maps

section
variable {w : World} {P : Program} {k e t : TypeId} {b n : Nat} {f : Lit → Option Value} {z key : Value} {kl : Lit}
theorem mv_lookok_run (h : MV w P k b n f) (K : Keyed P k) (ht : P.underlying t = some (.map k e)) (hz : (zeroValue e).run P w = .ok z w) (hkey : keyOf P k key = some kl) {v : Value} {bo : Bool} (hv : (f kl).getD z = v) (hb : (f kl).isSome = bo) : (Instr.lookup t (.map (some b)) key true).run P w = .ok (.tuple #[v, .bool bo]) w := by
  obtain ⟨D, h1, h2⟩ := h
  obtain ⟨v', ps, hrun, hv'⟩ := h1.look_ok K ht hz (zd := .held z) (zp := []) rfl hkey
  have e1 : v' = v := by
    have := congrArg (Option.map Prod.fst) hv'
    simp only [R0, Option.map_some, Option.some.injEq] at this
    rw [h2 kl] at this
    rw [← hv]
    cases e : f kl with
    | none => rw [e] at this; simpa using this
    | some y => rw [e] at this; simpa using this
  rw [hrun, e1, h2.has kl, hb]
theorem mv_look_run (h : MV w P k b n f) (K : Keyed P k) (ht : P.underlying t = some (.map k e)) (hz : (zeroValue e).run P w = .ok z w) (hkey : keyOf P k key = some kl) {v : Value} (hv : (f kl).getD z = v) : (Instr.lookup t (.map (some b)) key false).run P w = .ok v w := by
  obtain ⟨D, h1, h2⟩ := h
  obtain ⟨v', ps, hrun, hv'⟩ := h1.lookup K ht hz (zd := .held z) (zp := []) rfl hkey
  have e1 : v' = v := by
    have := congrArg (Option.map Prod.fst) hv'
    simp only [R0, Option.map_some, Option.some.injEq] at this
    rw [h2 kl] at this
    rw [← hv]
    cases e : f kl with
    | none => rw [e] at this; simpa using this
    | some y => rw [e] at this; simpa using this
  rw [hrun, e1]
theorem mv_drop_run (h : MV w P k b n f) (K : Keyed P k) (ht : P.underlying t = some (.map k e)) (hkey : keyOf P k key = some kl) (ty : TypeId) : ∃ w', (Builtin.delete_ #[t, k] ty #[.map (some b), key]).run P w = .ok (.tuple #[]) w' ∧ MV w' P k b n (upd f kl none) ∧ w.mapTurned w' b := by
  obtain ⟨D, h1, h2⟩ := h
  obtain ⟨w', hrun, r1, r2⟩ := h1.drop K ht hkey ty
  exact ⟨w', hrun, ⟨_, r1, h2.del kl⟩, r2⟩
theorem mv_store_run (h : MV w P k b n f) (K : Keyed P k) (ht : P.underlying t = some (.map k e)) (hn : n < maxLen) (hkey : keyOf P k key = some kl) (val : Value) : ∃ w', (Instr.mapUpdate t (.map (some b)) key val).run P w = .ok () w' ∧ MV w' P k b (n + 1) (upd f kl (some val)) ∧ w.mapTurned w' b := by
  obtain ⟨D, h1, h2⟩ := h
  obtain ⟨w', hrun, r1, r2⟩ := h1.store K ht hn (val := val) (d := .held val) (ps := []) hkey rfl
  exact ⟨w', hrun, ⟨_, r1, h2.put h1.isMap (key_lit hkey) val⟩, r2⟩
/-- How many entries there are: the keys are listed. -/
theorem mv_size {D : DataW Value} (h1 : w.ownsMap P k R0 b n D) (h2 : Tells D f) (K : Keyed P k) (ks : List Lit) (hn : ks.Nodup) (hk : ∀ q, (f q).isSome = true ↔ q ∈ ks) : Maps.size D = ks.length := by
  obtain ⟨es, hD, hp, hkl⟩ := h1.entries K
  subst hD
  have hm : ∀ q, q ∈ es.map Prod.fst ↔ q ∈ ks := fun q => by
    rw [← hk q, ← h2.has q, has_eq, List.any_eq_true, List.mem_map]
    constructor
    · rintro ⟨p, hpm, rfl⟩
      exact ⟨p, hpm, WideAt.sameKey_self (hkl p hpm)⟩
    · rintro ⟨p, hpm, hs⟩
      exact ⟨p, hpm, WideAt.sameKey_eq hs⟩
  have hnd : (es.map Prod.fst).Nodup := by
    unfold List.Nodup
    rw [List.pairwise_map]
    exact hp
  have := ((List.perm_ext_iff_of_nodup hnd hn).2 hm).length_eq
  rw [List.length_map] at this
  rw [size_eq, this]
theorem mv_len_run (h : MV w P k b n f) (K : Keyed P k) (ht : P.underlying t = some (.map k e)) (ks : List Lit) (hn : ks.Nodup) (hk : ∀ q, (f q).isSome = true ↔ q ∈ ks) (ty : TypeId) : (Builtin.len_ #[t] ty #[.map (some b)]).run P w = .ok (.int .i64 (ks.length : Int)) w := by
  obtain ⟨D, h1, h2⟩ := h
  rw [h1.len ht ty, mv_size h1 h2 K ks hn hk]
theorem mv_len_le (h : MV w P k b n f) (K : Keyed P k) (ks : List Lit) (hn : ks.Nodup) (hk : ∀ q, (f q).isSome = true ↔ q ∈ ks) : ks.length ≤ n := by
  obtain ⟨D, h1, h2⟩ := h
  rw [← mv_size h1 h2 K ks hn hk]
  exact h1.size_le
end
end Go.Proofs.Ytldiginkmmlojaa
