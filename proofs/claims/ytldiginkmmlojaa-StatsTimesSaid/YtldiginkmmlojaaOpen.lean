/- An argument's reading opened to a description of memory: whole numbers, strings, slices, structs of one-cell fields, nested as wanted. -/
import Derived.Test.YtldiginkmmlojaaProg
import Derived.Deep.Slices
import Derived.Deep.Fields
import Derived.ChangeSame
import Derived.Test.YtldiginkmmlojaaWWords
namespace Go.Proofs.Ytldiginkmmlojaa
set_option linter.unusedVariables false
open Go.RowKit Go.ChangeShapes Go.WideShapes Go.Deep Go.Proofs.YtldiginkmmlojaaW.PrintWords

/-- Whatever a reading takes at type t is described by d, and is good. -/
def Opens {α : Type} (P : Program) (t : TypeId) (d : Kd α) (good : α → Prop) : Prop :=
  ∀ (H : Type) (enc : TypeId × Value → H) (w : World) (base : Nat) (spare : Nat → Bool) (held : Bool) (fuel : Nat) (cs : List Value) (x : DataW H × List MemPlace), DataW.trod enc P w base spare held fuel t cs = some x → ∃ p, d.K w p cs ∧ good p
theorem opens_int {P : Program} {t : TypeId} {k : IntKind} (ht : P.underlying t = some (.int k)) : Opens P t (Kd.int k) (fun n => (Lit.int k n).wf = true) := by
  intro H enc w base spare held fuel cs x h
  obtain ⟨n, rfl, _, hw⟩ := DataW.trod_int ht h
  exact ⟨n, rfl, hw⟩
theorem opens_string {P : Program} {t : TypeId} (ht : P.underlying t = some .string) : Opens P t Kd.string (fun s => s.size ≤ maxLen) := by
  intro H enc w base spare held fuel cs x h
  obtain ⟨s, rfl, _, hs⟩ := DataW.trod_string ht h
  exact ⟨s, rfl, hs⟩
theorem opens_bool {P : Program} {t : TypeId} (ht : P.underlying t = some .bool) : Opens P t Kd.bool (fun _ => True) := by
  intro H enc w base spare held fuel cs x h
  obtain ⟨b, rfl, _⟩ := DataW.trod_bool ht h
  exact ⟨b, rfl, trivial⟩
theorem list_of {α : Type} {p : Nat → α → Prop} : ∀ (n : Nat), (∀ i, i < n → ∃ x, p i x) → ∃ xs : List α, xs.length = n ∧ ∀ i x, xs[i]? = some x → p i x
  | 0, _ => ⟨[], rfl, fun i x h => by simp at h⟩
  | n + 1, h => by
    obtain ⟨xs, hl, hx⟩ := list_of n (fun i hi => h i (by omega))
    obtain ⟨y, hy⟩ := h n (by omega)
    refine ⟨xs ++ [y], by simp [hl], fun i x hi => ?_⟩
    by_cases hlt : i < n
    · rw [List.getElem?_append_left (by omega)] at hi
      exact hx i x hi
    · have h2 := (List.getElem?_eq_some_iff.1 hi).1
      rw [List.length_append, List.length_singleton] at h2
      obtain rfl : i = n := by omega
      rw [← hl, List.getElem?_concat_length] at hi
      cases hi
      exact hy
theorem opens_slice {α : Type} {d : Kd α} {good : α → Prop} {P : Program} {t e : TypeId} (ht : P.underlying t = some (.slice e)) (hC : P.cellsOf e = d.sz) (hd : Opens P e d good) : Opens P t (Kd.slice e d) (fun xs => ∀ x ∈ xs, good x) := by
  intro H enc w base spare held fuel cs x h
  rcases open_slice ht h with ⟨rfl, _⟩ | ⟨a, len, cap, m, n, D, Pl, rfl, hb, hl, hm, hmm, _, hi⟩
  · exact ⟨[], ⟨none, 0, rfl, Nat.le_refl _, rfl, Nat.zero_le _, fun h0 => absurd h0 (Nat.lt_irrefl _)⟩, fun x hx => by simp at hx⟩
  · have hlm : len ≤ m := by rw [hmm]; split <;> omega
    obtain ⟨xs, hxl, hx⟩ := list_of (p := fun i x => (∃ c, c.length = d.sz ∧ d.K w x c ∧ ∀ j u, c[j]? = some u → w.cell? (a.add (i * d.sz + j)) = some u) ∧ good x) len (fun i hil => by
      obtain ⟨cs', hc, ht'⟩ := hi i (by omega)
      obtain ⟨p, hK, hg⟩ := hd H enc w base spare held n cs' _ ht'
      obtain ⟨_, hcl, hat⟩ := World.cells?_some hc
      refine ⟨p, ⟨cs', by rw [hcl, hC], hK, fun j u hj => ?_⟩, hg⟩
      have hjl := (List.getElem?_eq_some_iff.1 hj).1
      have := hat j (by omega)
      rw [hC, Go.Deep.add_add] at this
      exact this.trans hj)
    unfold maxLen at hm
    refine ⟨xs, ⟨some a, cap, by rw [hxl], by omega, rfl, by omega, fun _ => ⟨a, rfl, fun j p hp => (hx j p hp).1⟩⟩, fun x hxm => ?_⟩
    obtain ⟨i, hil, rfl⟩ := List.getElem_of_mem hxm
    exact (hx i _ (List.getElem?_eq_getElem hil)).2
theorem fields_open {P : Program} {t : TypeId} {fs : Array Field} (ht : P.underlying t = some (.struct fs)) (hone : oneCellFields P fs = true) (hC : P.cellsOf t = fs.size) {H : Type} {enc : TypeId × Value → H} {w : World} {base : Nat} {spare : Nat → Bool} {held : Bool} {fuel : Nat} {cs : List Value} {x : DataW H × List MemPlace} (h : DataW.trod enc P w base spare held fuel t cs = some x) :
    cs.length = fs.size ∧ ∀ (j : Nat) (f : Field), fs[j]? = some f → ∃ (c : Value) (y : DataW H × List MemPlace) (n : Nat), cs[j]? = some c ∧ DataW.trod enc P w base spare held n f.type [c] = some y := by
  obtain ⟨ys, n', hn', hy, hlen, hyl, hf⟩ := DataW.trod_struct ht h
  rw [hC] at hlen
  refine ⟨hlen, fun j f hj => ?_⟩
  obtain ⟨ho, hk⟩ := hone_of hone j f hj
  have hjl : j < fs.size := (Array.getElem?_eq_some_iff.1 hj).1
  have h1 := hf j f hj
  rw [ho, hk] at h1
  have hone' : (cs.drop j).take 1 = [cs[j]'(by omega)] := by
    rw [List.drop_eq_getElem_cons (by omega)]
    rfl
  rw [hone'] at h1
  have hys : ys[j]? = some (ys[j]'(by omega)) := List.getElem?_eq_getElem (by omega)
  exact ⟨_, _, n', List.getElem?_eq_getElem (by omega), h1.trans hys⟩
theorem opens_struct2 {α β : Type} {a : Kd α} {b : Kd β} {ga : α → Prop} {gb : β → Prop} {P : Program} {t : TypeId} {f0 f1 : Field} (ht : P.underlying t = some (.struct #[f0, f1])) (hone : oneCellFields P #[f0, f1] = true) (hC : P.cellsOf t = 2) (h0 : Opens P f0.type a ga) (h1 : Opens P f1.type b gb) :
    Opens P t (Kd.pair a b) (fun x => ga x.1 ∧ gb x.2) := by
  intro H enc w base spare held fuel cs x h
  obtain ⟨hl, hf⟩ := fields_open ht hone hC h
  match cs, hl with
  | [c0, c1], _ =>
    obtain ⟨_, y0, n0, e0, t0⟩ := hf 0 f0 rfl
    obtain ⟨_, y1, n1, e1, t1⟩ := hf 1 f1 rfl
    cases e0; cases e1
    obtain ⟨p0, k0, g0⟩ := h0 H enc w base spare held _ _ _ t0
    obtain ⟨p1, k1, g1⟩ := h1 H enc w base spare held _ _ _ t1
    exact ⟨(p0, p1), ⟨[c0], [c1], rfl, k0, k1⟩, g0, g1⟩
theorem opens_struct3 {α β γ : Type} {a : Kd α} {b : Kd β} {c : Kd γ} {ga : α → Prop} {gb : β → Prop} {gc : γ → Prop} {P : Program} {t : TypeId} {f0 f1 f2 : Field} (ht : P.underlying t = some (.struct #[f0, f1, f2])) (hone : oneCellFields P #[f0, f1, f2] = true) (hC : P.cellsOf t = 3) (h0 : Opens P f0.type a ga) (h1 : Opens P f1.type b gb) (h2 : Opens P f2.type c gc) :
    Opens P t (Kd.pair a (Kd.pair b c)) (fun x => ga x.1 ∧ gb x.2.1 ∧ gc x.2.2) := by
  intro H enc w base spare held fuel cs x h
  obtain ⟨hl, hf⟩ := fields_open ht hone hC h
  match cs, hl with
  | [c0, c1, c2], _ =>
    obtain ⟨_, y0, n0, e0, t0⟩ := hf 0 f0 rfl
    obtain ⟨_, y1, n1, e1, t1⟩ := hf 1 f1 rfl
    obtain ⟨_, y2, n2, e2, t2⟩ := hf 2 f2 rfl
    cases e0; cases e1; cases e2
    obtain ⟨p0, k0, g0⟩ := h0 H enc w base spare held _ _ _ t0
    obtain ⟨p1, k1, g1⟩ := h1 H enc w base spare held _ _ _ t1
    obtain ⟨p2, k2, g2⟩ := h2 H enc w base spare held _ _ _ t2
    exact ⟨(p0, p1, p2), ⟨[c0], [c1, c2], rfl, k0, ⟨[c1], [c2], rfl, k1, k2⟩⟩, g0, g1, g2⟩
theorem opens_struct4 {α β γ δ : Type} {a : Kd α} {b : Kd β} {c : Kd γ} {d : Kd δ} {ga : α → Prop} {gb : β → Prop} {gc : γ → Prop} {gd : δ → Prop} {P : Program} {t : TypeId} {f0 f1 f2 f3 : Field} (ht : P.underlying t = some (.struct #[f0, f1, f2, f3])) (hone : oneCellFields P #[f0, f1, f2, f3] = true) (hC : P.cellsOf t = 4) (h0 : Opens P f0.type a ga) (h1 : Opens P f1.type b gb) (h2 : Opens P f2.type c gc) (h3 : Opens P f3.type d gd) :
    Opens P t (Kd.pair a (Kd.pair b (Kd.pair c d))) (fun x => ga x.1 ∧ gb x.2.1 ∧ gc x.2.2.1 ∧ gd x.2.2.2) := by
  intro H enc w base spare held fuel cs x h
  obtain ⟨hl, hf⟩ := fields_open ht hone hC h
  match cs, hl with
  | [c0, c1, c2, c3], _ =>
    obtain ⟨_, y0, n0, e0, t0⟩ := hf 0 f0 rfl
    obtain ⟨_, y1, n1, e1, t1⟩ := hf 1 f1 rfl
    obtain ⟨_, y2, n2, e2, t2⟩ := hf 2 f2 rfl
    obtain ⟨_, y3, n3, e3, t3⟩ := hf 3 f3 rfl
    cases e0; cases e1; cases e2; cases e3
    obtain ⟨p0, k0, g0⟩ := h0 H enc w base spare held _ _ _ t0
    obtain ⟨p1, k1, g1⟩ := h1 H enc w base spare held _ _ _ t1
    obtain ⟨p2, k2, g2⟩ := h2 H enc w base spare held _ _ _ t2
    obtain ⟨p3, k3, g3⟩ := h3 H enc w base spare held _ _ _ t3
    exact ⟨(p0, p1, p2, p3), ⟨[c0], [c1, c2, c3], rfl, k0, ⟨[c1], [c2, c3], rfl, k1, ⟨[c2], [c3], rfl, k2, k3⟩⟩⟩, g0, g1, g2, g3⟩
theorem opens_struct5 {α β γ δ ε : Type} {a : Kd α} {b : Kd β} {c : Kd γ} {d : Kd δ} {e : Kd ε} {ga : α → Prop} {gb : β → Prop} {gc : γ → Prop} {gd : δ → Prop} {ge : ε → Prop} {P : Program} {t : TypeId} {f0 f1 f2 f3 f4 : Field} (ht : P.underlying t = some (.struct #[f0, f1, f2, f3, f4])) (hone : oneCellFields P #[f0, f1, f2, f3, f4] = true) (hC : P.cellsOf t = 5) (h0 : Opens P f0.type a ga) (h1 : Opens P f1.type b gb) (h2 : Opens P f2.type c gc) (h3 : Opens P f3.type d gd) (h4 : Opens P f4.type e ge) :
    Opens P t (Kd.pair a (Kd.pair b (Kd.pair c (Kd.pair d e)))) (fun x => ga x.1 ∧ gb x.2.1 ∧ gc x.2.2.1 ∧ gd x.2.2.2.1 ∧ ge x.2.2.2.2) := by
  intro H enc w base spare held fuel cs x h
  obtain ⟨hl, hf⟩ := fields_open ht hone hC h
  match cs, hl with
  | [c0, c1, c2, c3, c4], _ =>
    obtain ⟨_, y0, n0, e0, t0⟩ := hf 0 f0 rfl
    obtain ⟨_, y1, n1, e1, t1⟩ := hf 1 f1 rfl
    obtain ⟨_, y2, n2, e2, t2⟩ := hf 2 f2 rfl
    obtain ⟨_, y3, n3, e3, t3⟩ := hf 3 f3 rfl
    obtain ⟨_, y4, n4, e4, t4⟩ := hf 4 f4 rfl
    cases e0; cases e1; cases e2; cases e3; cases e4
    obtain ⟨p0, k0, g0⟩ := h0 H enc w base spare held _ _ _ t0
    obtain ⟨p1, k1, g1⟩ := h1 H enc w base spare held _ _ _ t1
    obtain ⟨p2, k2, g2⟩ := h2 H enc w base spare held _ _ _ t2
    obtain ⟨p3, k3, g3⟩ := h3 H enc w base spare held _ _ _ t3
    obtain ⟨p4, k4, g4⟩ := h4 H enc w base spare held _ _ _ t4
    exact ⟨(p0, p1, p2, p3, p4), ⟨[c0], [c1, c2, c3, c4], rfl, k0, ⟨[c1], [c2, c3, c4], rfl, k1, ⟨[c2], [c3, c4], rfl, k2, ⟨[c3], [c4], rfl, k3, k4⟩⟩⟩⟩, g0, g1, g2, g3, g4⟩
theorem opens_iso {α β : Type} {d : Kd α} {good : α → Prop} {P : Program} {t : TypeId} (f : β → α) (g : α → β) (hfg : ∀ a, f (g a) = a) (h : Opens P t d good) : Opens P t (Kd.iso d f) (fun x => good (f x)) := by
  intro H enc w base spare held fuel cs x hx
  obtain ⟨p, hK, hg⟩ := h H enc w base spare held fuel cs x hx
  exact ⟨g p, by show d.K w (f (g p)) cs; rw [hfg]; exact hK, by show good (f (g p)); rw [hfg]; exact hg⟩
/-- A slice argument, opened. -/
theorem open_arg {α : Type} {d : Kd α} {good : α → Prop} {P : Program} {t e : TypeId} (ho : Opens P t (Kd.slice e d) (fun xs => ∀ x ∈ xs, good x)) {H : Type} {enc : TypeId × Value → H} {w : World} {base : Nat} {spare : Nat → Bool} {held : Bool} {a : Option Addr} {len cap : Nat} {dd : DataW H} {ps : List MemPlace} (h : DataW.Trod enc P w base spare held t (.slice a len cap) dd ps) :
    ∃ xs : List α, xs.length = len ∧ len ≤ cap ∧ Kd.C d w a xs.length xs ∧ ∀ x ∈ xs, good x := by
  obtain ⟨fuel, hf⟩ := h
  obtain ⟨xs, ⟨A, c, hE, hl, hc⟩, hg⟩ := ho _ _ _ _ _ _ _ _ _ hf
  simp [Value.cells] at hE
  obtain ⟨rfl, rfl, rfl⟩ := hE
  exact ⟨xs, rfl, hl, hc, hg⟩
end Go.Proofs.Ytldiginkmmlojaa
