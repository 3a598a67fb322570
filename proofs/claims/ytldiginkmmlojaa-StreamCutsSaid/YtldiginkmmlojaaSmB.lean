/- Streams: what Write, Close, Pending and New do. -/
import Derived.Test.YtldiginkmmlojaaSmA
namespace Go.Proofs.Ytldiginkmmlojaa
set_option linter.unusedVariables false
open Go.RowKit Go.Proofs.YtldiginkmmlojaaW.PrintWords
attribute [local go_sem] mx2 mn2 mxTwo mnTwo

structure Ln where
  t : ByteArray
  e : Int
def kLn : Kd Ln := Kd.iso (Kd.pair Kd.string (Kd.int .i64)) (fun x : Ln => (x.t, x.e))
theorem kLn_mkM (w : World) (base : Nat) (ok : Nat → Prop) (x : Ln) : kLn.M w base ok x [.string x.t, .int .i64 x.e] := ⟨[.string x.t], [.int .i64 x.e], rfl, rfl, rfl⟩
theorem infoLnZ : (Try.prog.info? 59).map (fun i => (i.zero, i.size, i.bytes)) = some (some (.agg #[(.string ⟨#[]⟩), (.int .i64 0)]), 2, 24) := by kernel_rfl

/-- One byte more. -/
def stepW (mo : Int) (s : List Int × List Ln) (c : Int) : List Int × List Ln :=
  if c = 10 then ([], s.2 ++ [⟨strOfNums (trim s.1), 1⟩])
  else if c = 0 then ([], s.2 ++ [⟨strOfNums (trim s.1), 2⟩])
  else if mo ≤ ((s.1.length + 1 : Nat) : Int) then ([], s.2 ++ [⟨strOfNums (trim (s.1 ++ [c])), 3⟩])
  else (s.1 ++ [c], s.2)
def writeL (mo : Int) (r : List Int) (l : List Int) : List Int × List Ln := l.foldl (stepW mo) (r, [])
theorem stepW_len (mo : Int) (s : List Int × List Ln) (c : Int) : (stepW mo s c).1.length ≤ s.1.length + 1 ∧ (stepW mo s c).2.length ≤ s.2.length + 1 := by
  unfold stepW
  split
  · simp
  · split
    · simp
    · split <;> simp
theorem foldW_len (mo : Int) (l : List Int) : ∀ s, (l.foldl (stepW mo) s).1.length ≤ s.1.length + l.length ∧ (l.foldl (stepW mo) s).2.length ≤ s.2.length + l.length := by
  induction l with
  | nil => intro s; simp
  | cons c t ih =>
    intro s
    have h1 := stepW_len mo s c
    have h2 := ih (stepW mo s c)
    simp only [List.foldl_cons, List.length_cons]
    omega
theorem foldW_snoc (mo : Int) (s : List Int × List Ln) (l : List Int) (k : Nat) (h : k < l.length) : (l.take (k + 1)).foldl (stepW mo) s = stepW mo ((l.take k).foldl (stepW mo) s) (rd l (k : Int)) := by
  rw [take_snoc_rd l k h, List.foldl_append]
  rfl

theorem keep_step {w W W' : World} {g : Nat} {row row1 : Option Nat} (h : KeepBut w W g row) (hs : W.heap.size ≤ W'.heap.size) (hm : ∀ i, i < W.heap.size → i ≠ g → some i ≠ row1 → W'.heap[i]? = W.heap[i]?) (hr : row1 = row ∨ row1 = none ∨ ∃ k, row1 = some k ∧ w.heap.size ≤ k) : KeepBut w W' g row := by
  refine ⟨Nat.le_trans h.1 hs, fun i hi hg hn => (hm i (Nat.lt_of_lt_of_le hi h.1) hg ?_).trans (h.2 i hi hg hn)⟩
  rcases hr with rfl | rfl | ⟨k, rfl, hk⟩
  · exact hn
  · simp
  · intro e
    injection e with e
    omega

/-- What holds while Write goes on. -/
structure WI (w : World) (b g : Nat) (v0 : Value) (mo : Int) (W : World) (vr vo : Value) (r : List Int) (out : List Ln) : Prop where
  hb : W.heap[g]? = some (.cells #[vr, .int .i64 mo, .bool false] 130 (0, 0))
  hr : Kd.R (Kd.int .u8) 5 W b (fun k => k ≠ g) vr r
  ho : Kd.R kLn 59 W w.heap.size (fun _ => True) vo out
  hk : KeepBut w W g v0.ownBlock
  hv : vr.ownBlock = v0.ownBlock ∨ vr.ownBlock = none ∨ ∃ k, vr.ownBlock = some k ∧ w.heap.size ≤ k
  hl : Below b w W
theorem kLnE : ∀ q, q ∈ 59 :: kLn.E → q ≠ 130 := by
  intro q hq
  have : kLn.E = [] := rfl
  rw [this] at hq
  simp at hq
  omega
section
variable {w W w1 : World} {b g : Nat} {v0 : Value} {mo : Int} {vr vo v1 : Value} {r : List Int} {out : List Ln}
theorem WI.drewN (h : WI w b g v0 mo W vr vo r out) (m : Nat) : WI w b g v0 mo (W.drewN m) vr vo r out := ⟨blk_drewN h.hb m, Kd.R_drewN h.hr m, Kd.R_drewN h.ho m, keep_drewN h.hk m, h.hv, pw_below_drewN h.hl m⟩
theorem WI.cut (h : WI w b g v0 mo W vr vo r out) (hb1 : w1.heap[g]? = some (.cells #[.slice none 0 0, .int .i64 mo, .bool false] 130 (0, 0))) (hk1 : KeepBut W w1 g none) (hl1 : Below b W w1) : WI w b g v0 mo w1 (.slice none 0 0) vo [] out :=
  ⟨hb1, Kd.R_nil _ _ _ _ _, Kd.R_mono (Kd.R_keep (Kd.R_types h.ho h.hb kLnE) hk1 (fun k hk => hk.2)) (fun _ _ => trivial), keep_step h.hk hk1.1 (fun i hi hg _ => hk1.2 i hi hg (by simp)) (.inr (.inl rfl)), .inr (.inl rfl), h.hl.trans hl1⟩
theorem WI.line (h : WI w b g v0 mo W vr vo r out) (hbw : b ≤ w.heap.size) {p : Ln} (ho1 : Kd.R kLn 59 w1 w.heap.size (fun _ => True) v1 (out ++ [p])) (hbl : Below w.heap.size W w1) (hgr : W.grownBy w1 vo.ownBlock) : WI w b g v0 mo w1 vr v1 r (out ++ [p]) :=
  ⟨blk_grown h.hb hgr (Kd.R_ne h.ho h.hb (by omega)), Kd.R_mono (Kd.R_grown (Kd.R_apartR h.hr h.ho (by intro q hq; simp [Kd.int, Kd.scalar] at hq; omega)) hgr (fun k hk => hk.2)) (fun k hk => hk.1), ho1,
    ⟨Nat.le_trans h.hk.1 hbl.size, fun i hi hg hn => (hbl.block i hi).trans (h.hk.2 i hi hg hn)⟩, h.hv, h.hl.trans (hbl.mono hbw)⟩
theorem WI.add (h : WI w b g v0 mo W vr vo r out) (hg : b ≤ g) {c : Int} (hr1 : Kd.R (Kd.int .u8) 5 w1 b (fun k => k ≠ g) v1 (r ++ [c])) (hbl : Below b W w1) (hgr : W.grownBy w1 vr.ownBlock) (hat : v1.ownBlock = vr.ownBlock ∨ ∃ k, v1.ownBlock = some k ∧ W.heap.size ≤ k) : WI w b g v0 mo (w1.setCell ⟨g, 0, none⟩ v1) v1 vo (r ++ [c]) out := by
  have hgv : some g ≠ vr.ownBlock := fun e => h.hr.1 g e.symm rfl
  have hb1 := blk_grown h.hb hgr hgv
  refine ⟨blk_put hb1 0 _ rfl, Kd.R_far hr1 (p := ⟨g, 0, none⟩) (fun k hk => hk) _, ?_, ?_, ?_, (h.hl.trans hbl).setCell (p := ⟨g, 0, none⟩) hg _⟩
  · have h1 := Kd.R_grown (Kd.R_apartR h.ho h.hr (by intro q hq; have : kLn.E = [] := rfl; rw [this] at hq; simp at hq; omega)) hgr (fun k hk => hk.2)
    exact Kd.R_mono (Kd.R_far (Kd.R_types h1 hb1 kLnE) (p := ⟨g, 0, none⟩) (fun k hk => hk.2) _) (fun _ _ => trivial)
  · refine keep_step h.hk (W' := w1.setCell ⟨g, 0, none⟩ v1) (by simp; exact hgr.size) (fun i hi hne hn => ?_) h.hv
    exact (Below.heap_setCell w1 ⟨g, 0, none⟩ v1 i hne).trans (hgr.block i hi hn)
  · rcases hat with e | ⟨k, e, hk⟩
    · rw [e]; exact h.hv
    · exact .inr (.inr ⟨k, e, Nat.le_trans h.hk.1 hk⟩)
end
end Go.Proofs.Ytldiginkmmlojaa
