/- The disk in memory: what it holds; what keeps it. -/
import Derived.Test.YtpnbjpkdbiiogaaFiE
import Derived.Test.YtpnbjpkdbiiogaaDiK
namespace Go.Proofs.Ytpnbjpkdbiiogaa
set_option linter.unusedVariables false
open Go.RowKit Go.Maps Go.Proofs.YtpnbjpkdbiiogaaW.PrintWords
attribute [local go_sem] mx2 mn2 mxTwo mnTwo

/-- A file of the disk: its number, where it lies, what it holds. -/
structure FR where
  id : Int
  g : Nat
  vn : Value
  vs : Value
  vo : Value
  now : List Int
  safe : List Int
  ops : List FOp
def FR.v (p : FR) : Value := .pointer (some ⟨p.g, 0, none⟩)
def fileAt (fl : List FR) (id : Int) : Option FR := fl.find? (fun p => decide (p.id = id))
open Classical in
noncomputable def filesF (fl : List FR) : Lit → Option Value := fun q => (fl.find? (fun p => decide (Lit.int .i64 p.id = q))).map FR.v
open Classical in
theorem filesF_at (fl : List FR) (id : Int) : filesF fl (.int .i64 id) = (fileAt fl id).map FR.v := by
  unfold filesF fileAt
  congr 2
  funext p
  simp
theorem filesF_nil : filesF [] = fun _ => none := rfl
open Classical in
theorem filesF_snoc (fl : List FR) (p : FR) (h : fileAt fl p.id = none) : filesF (fl ++ [p]) = upd (filesF fl) (.int .i64 p.id) (some p.v) := by
  funext q
  by_cases e : q = .int .i64 p.id
  · subst e
    rw [upd_same, filesF_at]
    unfold fileAt at h ⊢
    rw [List.find?_append, h]
    simp
  · rw [upd_other _ _ e]
    unfold filesF
    rw [List.find?_append]
    have : List.find? (fun p => decide (Lit.int .i64 p.id = q)) [p] = none := by simp [Ne.symm e]
    rw [this]
    simp
/-- Another file in the place of one. -/
def setFile (fl : List FR) (p' : FR) : List FR := fl.map (fun p => if p.id = p'.id then p' else p)
open Classical in
theorem filesF_set (fl : List FR) (p' : FR) (h : ∀ p ∈ fl, p.id = p'.id → p.g = p'.g) : filesF (setFile fl p') = filesF fl := by
  funext q
  unfold filesF setFile
  induction fl with
  | nil => rfl
  | cons a t ih =>
    have iht := ih (fun p hp => h p (List.mem_cons_of_mem _ hp))
    simp only [List.map_cons, List.find?_cons]
    by_cases ha : a.id = p'.id
    · rw [if_pos ha]
      by_cases hq : Lit.int .i64 p'.id = q
      · have hg := h a (List.mem_cons_self ..) ha
        simp [ha, hq, FR.v, hg]
      · simp only [ha, hq, decide_false]
        exact iht
    · rw [if_neg ha]
      by_cases hq : Lit.int .i64 a.id = q
      · simp [hq]
      · simp only [hq, decide_false]
        exact iht
theorem fileAt_mem {fl : List FR} {id : Int} {p : FR} (h : fileAt fl id = some p) : p ∈ fl ∧ p.id = id := by
  unfold fileAt at h
  exact ⟨List.mem_of_find?_eq_some h, by simpa using List.find?_some h⟩
/-- What a file's rows are not: the other files' rows of operations. -/
def apx (fl : List FR) (p : FR) : Nat → Prop := fun k => ∀ q ∈ fl, q.g ≠ p.g → some k ≠ q.vo.ownBlock
structure FsI (W : World) (b : Nat) (fl : List FR) : Prop where
  hf : ∀ p ∈ fl, FI W b p.g (apx fl p) p.vn p.vs p.vo p.now p.safe p.ops
  ap : fl.Pairwise (fun p q => p.id ≠ q.id ∧ p.g ≠ q.g)
/-- The disk. -/
structure DK (W : World) (b g gd mn ms : Nat) (vo : Value) (N : Nat) (now safe : List DN) (ops : List DOp) (mf M : Nat) (fl : List FR) (next room fuse : Int) (armed dead : Bool) : Prop where
  hb : W.heap[g]? = some (.cells #[.pointer (some ⟨gd, 0, none⟩), .map (some mf), .int .i64 next, .int .i64 room, .int .i64 fuse, .bool armed, .bool dead] 161 (0, 0))
  hd : DI W b gd mn ms vo N now safe ops
  hm : MV W Try.prog 3 mf M (filesF fl)
  hf : FsI W b fl
  hg : b ≤ g
  hmf : b ≤ mf
  n1 : mf ≠ mn
  n2 : mf ≠ ms
theorem FI.move {W W' : World} {b g : Nat} {x x' : Nat → Prop} {vn vs vo : Value} {now safe : List Int} {ops : List FOp} (h : FI W b g x vn vs vo now safe ops) (hg : W'.heap[g]? = W.heap[g]?)
    (hr : ∀ k, x k → k < W.heap.size → (∃ cs T, (T = 5 ∨ T = 141) ∧ W.heap[k]? = some (.cells cs T (0, 0))) → W'.heap[k]? = W.heap[k]? ∧ x' k) : FI W' b g x' vn vs vo now safe ops := by
  have key : ∀ k, (x k ∧ b ≤ k ∧ k < W.heap.size ∧ ∃ q, (q = 5 ∨ q = 141) ∧ ∃ cells, W.heap[k]? = some (.cells cells q (0, 0))) → W'.heap[k]? = W.heap[k]? ∧ x' k := fun k hk => by
    obtain ⟨h1, _, h3, q, h4, cs, h5⟩ := hk
    exact hr k h1 h3 ⟨cs, q, h4, h5⟩
  have hu : ∀ {v : Value} {xs : List Int}, Kd.R (Kd.int .u8) 5 W b x v xs → Kd.R (Kd.int .u8) 5 W' b x' v xs := fun h0 => by
    refine Kd.R_mono (Kd.R_move (Kd.R_bound h0) (fun k hk => ?_)) (fun k hk => ?_)
    all_goals
      obtain ⟨h1, h2, h3, q, h4, h5⟩ := hk
      have hq : q = 5 := by
        have : (Kd.int .u8).E = [] := rfl
        rw [this] at h4
        simpa using h4
      have := key k ⟨h1, h2, h3, q, .inl hq, h5⟩
    · exact this.1
    · exact this.2
  refine ⟨hg.trans h.hb, hu h.hn, hu h.hs, ?_, h.hg⟩
  refine Kd.R_mono (Kd.R_move (Kd.R_bound h.ho) (fun k hk => ?_)) (fun k hk => ?_)
  all_goals
    obtain ⟨h1, h2, h3, q, h4, h5⟩ := hk
    have hq : q = 5 ∨ q = 141 := by
      have : kOp.E = [5] := rfl
      rw [this] at h4
      simp at h4
      exact h4.symm
    have := key k ⟨h1, h2, h3, q, hq, h5⟩
  · exact this.1
  · exact this.2
theorem DI.move {W W' : World} {b g mn ms N : Nat} {vo : Value} {now safe : List DN} {ops : List DOp} (h : DI W b g mn ms vo N now safe ops) (hg : W'.heap[g]? = W.heap[g]?) (hn : W'.heap[mn]? = W.heap[mn]?) (hs : W'.heap[ms]? = W.heap[ms]?)
    (hr : ∀ k, k < W.heap.size → (∃ cs, W.heap[k]? = some (.cells cs 149 (0, 0))) → W'.heap[k]? = W.heap[k]?) : DI W' b g mn ms vo N now safe ops := by
  refine ⟨hg.trans h.hb, h.hn.move hn, h.hs.move hs, ?_, h.hg, h.hmn, h.hms, h.ne⟩
  refine Kd.R_mono (Kd.R_move (Kd.R_bound h.ho) (fun k hk => ?_)) (fun k hk => trivial)
  obtain ⟨h1, h2, h3, q, h4, cs, h5⟩ := hk
  have hq : q = 149 := by
    have : kDop.E = [] := rfl
    rw [this] at h4
    simpa using h4
  subst hq
  exact hr k h3 ⟨cs, h5⟩
section
variable {W W1 : World} {b g gd mn ms N mf M : Nat} {vo : Value} {now safe : List DN} {ops : List DOp} {fl : List FR} {next room fuse : Int} {armed dead : Bool}
theorem FsI.below (h : FsI W b fl) (hb : Below W.heap.size W W1) : FsI W1 b fl := ⟨fun p hp => (h.hf p hp).below hb, h.ap⟩
theorem DK.below (h : DK W b g gd mn ms vo N now safe ops mf M fl next room fuse armed dead) (hb : Below W.heap.size W W1) : DK W1 b g gd mn ms vo N now safe ops mf M fl next room fuse armed dead :=
  ⟨blk_below h.hb hb, h.hd.below hb, h.hm.below hb, h.hf.below hb, h.hg, h.hmf, h.n1, h.n2⟩
/-- The disk's own block is turned, no other one. -/
theorem DK.own (h : DK W b g gd mn ms vo N now safe ops mf M fl next room fuse armed dead) {next1 room1 fuse1 : Int} {armed1 dead1 : Bool}
    (hb : W1.heap[g]? = some (.cells #[.pointer (some ⟨gd, 0, none⟩), .map (some mf), .int .i64 next1, .int .i64 room1, .int .i64 fuse1, .bool armed1, .bool dead1] 161 (0, 0)))
    (hk : ∀ k, k ≠ g → W1.heap[k]? = W.heap[k]?) : DK W1 b g gd mn ms vo N now safe ops mf M fl next1 room1 fuse1 armed1 dead1 := by
  have hty : ∀ (k : Nat) (cs : Array Value) (T : TypeId), T ≠ 161 → W.heap[k]? = some (.cells cs T (0, 0)) → W1.heap[k]? = W.heap[k]? := fun k cs T hT hkk => hk k (blk_ne hkk h.hb hT)
  refine ⟨hb, ?_, h.hm.move (hk mf (h.hm.ne h.hb)), ⟨fun p hp => ?_, h.hf.ap⟩, h.hg, h.hmf, h.n1, h.n2⟩
  · exact h.hd.move (hty gd _ _ (by decide) h.hd.hb) (hk mn (h.hd.hn.ne h.hb)) (hk ms (h.hd.hs.ne h.hb)) (fun k _ ⟨cs, hc⟩ => hty k cs _ (by decide) hc)
  · have hp1 := h.hf.hf p hp
    exact hp1.move (hty p.g _ _ (by decide) hp1.hb) (fun k hx _ ⟨cs, T, hT, hc⟩ => ⟨hty k cs T (by rcases hT with rfl | rfl <;> decide) hc, hx⟩)
end
end Go.Proofs.Ytpnbjpkdbiiogaa
