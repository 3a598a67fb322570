/- The reference's directory in memory; Do, Sync. -/
import Derived.Test.YtpnbjpkdbiiogaaDiD
namespace Go.Proofs.Ytpnbjpkdbiiogaa
set_option linter.unusedVariables false
open Go.RowKit Go.Proofs.YtpnbjpkdbiiogaaW.PrintWords
attribute [local go_sem] mx2 mn2 mxTwo mnTwo

def kDop : Kd DOp := Kd.iso (Kd.pair (Kd.int .i64) (Kd.pair Kd.string (Kd.pair Kd.string (Kd.int .i64)))) (fun x : DOp => (x.kd, x.a, x.b, x.id))
theorem kDop_mkM (w : World) (base : Nat) (ok : Nat → Prop) (x : DOp) : kDop.M w base ok x [.int .i64 x.kd, .string x.a, .string x.b, .int .i64 x.id] :=
  ⟨[.int .i64 x.kd], [.string x.a, .string x.b, .int .i64 x.id], rfl, rfl, ⟨[.string x.a], [.string x.b, .int .i64 x.id], rfl, rfl, ⟨[.string x.b], [.int .i64 x.id], rfl, rfl, rfl⟩⟩⟩
theorem infoRDop : (Try.prog.info? 144).map (fun i => (i.zero, i.size, i.bytes)) = some (some (.agg #[(.int .i64 0), (.string ⟨#[]⟩), (.string ⟨#[]⟩), (.int .i64 0)]), 4, 48) := by kernel_rfl
theorem infoDop : (Try.prog.info? 149).map (fun i => (i.zero, i.size, i.bytes)) = some (some (.agg #[(.int .i64 0), (.string ⟨#[]⟩), (.string ⟨#[]⟩), (.int .i64 0)]), 4, 48) := by kernel_rfl
theorem at_Dop {w : World} {A : Option Addr} {n : Nat} {xs : List DOp} (h : Kd.C kDop w A n xs) (i : Nat) (h1 : i < n) : ∃ ad, A = some ad ∧ w.cell? (ad.add (i * 4)) = some (.int .i64 (xs.getD i zDop).kd) ∧ w.cell? ⟨(ad.add (i * 4)).block, (ad.add (i * 4)).off + 1, none⟩ = some (.string (xs.getD i zDop).a) ∧ w.cell? ⟨(ad.add (i * 4)).block, (ad.add (i * 4)).off + 2, none⟩ = some (.string (xs.getD i zDop).b) ∧ w.cell? ⟨(ad.add (i * 4)).block, (ad.add (i * 4)).off + 3, none⟩ = some (.int .i64 (xs.getD i zDop).id) := by
  obtain ⟨ad, c, e, _, hK, hc0⟩ := Kd.C_get h zDop (i : Int) (by omega) (by omega)
  simp only [Int.toNat_natCast] at hK hc0
  have hc : ∀ j u, c[j]? = some u → w.cell? (ad.add (i * 4 + j)) = some u := hc0
  obtain ⟨_, _, rfl, rfl, ⟨_, _, rfl, rfl, ⟨_, _, rfl, rfl, rfl⟩⟩⟩ := hK
  exact ⟨ad, e, hc 0 _ rfl, by rw [← add_field _ _ 1 (by omega)]; exact hc 1 _ rfl, by rw [← add_field _ _ 2 (by omega)]; exact hc 2 _ rfl, by rw [← add_field _ _ 3 (by omega)]; exact hc 3 _ rfl⟩
/-- The reference's directory. -/
structure RD (W : World) (b g : Nat) (vn vs vo : Value) (now safe : List DN) (ops : List DOp) : Prop where
  hb : W.heap[g]? = some (.cells #[vn, vs, vo] 70 (0, 0))
  hn : Kd.R kDN 156 W b (fun _ => True) vn now
  hs : Kd.R kDN 156 W b (fun _ => True) vs safe
  ho : Kd.R kDop 144 W b (fun _ => True) vo ops
  hg : b ≤ g
theorem dnE (t : Nat) (h1 : 156 ≠ t) : ∀ q, q ∈ 156 :: kDN.E → q ≠ t := by
  intro q hq
  have : kDN.E = [] := rfl
  rw [this] at hq
  simp at hq
  omega
theorem ropE7 (e t : Nat) (h1 : e ≠ t) : ∀ q, q ∈ e :: kDop.E → q ≠ t := by
  intro q hq
  have : kDop.E = [] := rfl
  rw [this] at hq
  simp at hq
  omega
section
variable {W W1 : World} {b g i : Nat} {x x' : Nat → Prop} {v vo : Value} {cs : Array Value} {t : TypeId}
theorem dfarN {xs : List DN} (h : Kd.R kDN 156 W b x v xs) (hb : W.heap[g]? = some (.cells cs t (0, 0))) (ht : 156 ≠ t) (u : Value) : Kd.R kDN 156 (W.setCell ⟨g, i, none⟩ u) b x v xs :=
  Kd.R_mono (Kd.R_far (Kd.R_types h hb (dnE _ ht)) (p := ⟨g, i, none⟩) (fun k hk => hk.2) u) (fun k hk => hk.1)
theorem dfarO {e : Nat} {xs : List DOp} (h : Kd.R kDop e W b x v xs) (hb : W.heap[g]? = some (.cells cs t (0, 0))) (ht : e ≠ t) (u : Value) : Kd.R kDop e (W.setCell ⟨g, i, none⟩ u) b x v xs :=
  Kd.R_mono (Kd.R_far (Kd.R_types h hb (ropE7 _ _ ht)) (p := ⟨g, i, none⟩) (fun k hk => hk.2) u) (fun k hk => hk.1)
theorem dgrowN {e : Nat} {xs : List DN} {ops : List DOp} (h : Kd.R kDN 156 W b x v xs) (ho : Kd.R kDop e W b x' vo ops) (he : 156 ≠ e) (hg : W.grownBy W1 vo.ownBlock) : Kd.R kDN 156 W1 b x v xs :=
  Kd.R_mono (Kd.R_grown (Kd.R_apartR h ho (dnE _ he)) hg (fun k hk => hk.2)) (fun k hk => hk.1)
end
section
variable {W W1 : World} {b g : Nat} {vn vs vo v1 : Value} {now safe now1 : List DN} {ops : List DOp} {o : DOp}
theorem RD.below (h : RD W b g vn vs vo now safe ops) (hb : Below W.heap.size W W1) : RD W1 b g vn vs vo now safe ops := ⟨blk_below h.hb hb, Kd.R_below h.hn hb, Kd.R_below h.hs hb, Kd.R_below h.ho hb, h.hg⟩
theorem RD.setNow (h : RD W b g vn vs vo now safe ops) (hv : Kd.R kDN 156 W b (fun _ => True) v1 now1) : RD (W.setCell ⟨g, 0, none⟩ v1) b g v1 vs vo now1 safe ops :=
  ⟨blk_put h.hb 0 _ rfl, dfarN hv h.hb (by decide) _, dfarN h.hs h.hb (by decide) _, dfarO h.ho h.hb (by decide) _, h.hg⟩
theorem RD.addOp (h : RD W b g vn vs vo now safe ops) (ho : Kd.R kDop 144 W1 b (fun _ => True) v1 (ops ++ [o])) (hg : W.grownBy W1 vo.ownBlock) : RD (W1.setCell ⟨g, 2, none⟩ v1) b g vn vs v1 now safe (ops ++ [o]) := by
  have hb := blk_grown h.hb hg (Kd.R_ne h.ho h.hb (by decide))
  exact ⟨blk_put hb 2 _ rfl, dfarN (dgrowN h.hn h.ho (by decide) hg) hb (by decide) _, dfarN (dgrowN h.hs h.ho (by decide) hg) hb (by decide) _, dfarO ho hb (by decide) _, h.hg⟩
end
theorem rdsync_any (b g : Nat) (vn vs vo : Value) (now safe : List DN) (ops : List DOp) (w : World) (h : RD w b g vn vs vo now safe ops) : Calls Try.prog 95 #[.pointer (some ⟨g, 0, none⟩)] w fun e w' => e = .returned (.tuple #[]) ∧ RD w' b g vn vn (.slice none 0 0) now now [] ∧ KeepBut w w' g none ∧ Below b w w' := by
  obtain ⟨A, c, rfl⟩ := Kd.R_slice h.hn
  have hc0 := (blk_cell h.hb 0).trans (rfl : _ = some (Value.slice A now.length c))
  have hc1 := (blk_cell h.hb 1).trans (rfl : _ = some vs)
  have hc2 := (blk_cell h.hb 2).trans (rfl : _ = some vo)
  have f1 := blk_frozen h.hb 1
  have f2 := blk_frozen h.hb 2
  have H := Aside0.mk h
  clear h
  go_enter Try.func95, Try.ntmps95
  go_wp2_with fail
  first | go_end0 | ((try simp only [Exit.inBlock, Exit.then]); refine bodyPost_ret (results_none rfl _ _ _) rfl ?_)
  have h1 := blk_put H.out.hb 1 (.slice A now.length c) rfl
  exact ⟨rfl, ⟨blk_put h1 2 _ rfl, dfarN (dfarN H.out.hn H.out.hb (by decide) _) h1 (by decide) _, dfarN (dfarN H.out.hn H.out.hb (by decide) _) h1 (by decide) _, Kd.R_nil _ _ _ _ _, H.out.hg⟩, ((KeepBut.refl _ _ _).set_ 1 _).set_ 2 _, (((Below.refl _ _).setCell (p := ⟨g, 1, none⟩) H.out.hg _).setCell (p := ⟨g, 2, none⟩) H.out.hg _)⟩
def doCode (now : List DN) (o : DOp) : Int :=
  if o.kd = 0 ∧ (getN now o.a).isSome = true then 7 else
  if o.kd ≠ 0 ∧ (getN now o.a).isSome = false then 6 else
  if o.kd = 0 ∧ rightB o.a = false ∨ o.kd = 1 ∧ rightB o.b = false then 1 else 0
def doNow (now : List DN) (o : DOp) : List DN := if doCode now o = 0 then didL now o else now
def doOps (now : List DN) (ops : List DOp) (o : DOp) : List DOp := if doCode now o = 0 then ops ++ [o] else ops
end Go.Proofs.Ytpnbjpkdbiiogaa
