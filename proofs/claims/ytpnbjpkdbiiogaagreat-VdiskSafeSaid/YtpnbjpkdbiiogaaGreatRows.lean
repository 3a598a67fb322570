/-
  No cell of these rows narrows 'for every input' (looked for: loops, veiled, ifaces, maps, wideKeys, modest, calm, conditions, laid).
  DERIVED. THE GIVEN ROWS OF THIS SEAT. 3 by the template 'for every input the law returns true; each argument reads behind the call as it read before'; 0 by the template 'total and deterministic' (their statements: YtpnbjpkdbiiogaaGreatTotals.lean).
  GIVEN WITH THE SEED: the statements are not yours to turn. If you find one false, say at which input.
  Laid BY PROGRAM, IN A SANDBOX (cutbox-rows.mjs): the forced cells as the released guide's own fill.sh prints them over the translation 0c77c8ee8a8ee3a9… (all of the seat's roots in one cut). By AI agents, Wed Nov 11 2026. No macro, syntax, notation, axiom, sorry.
-/
import Derived.Test.YtpnbjpkdbiiogaaGreatChecked
import GoSem.Claim
import GoSem.ClaimJoined
import GoSem.ClaimMapViews
import Derived.JoinedTies
import Derived.KernelRfl
namespace Go.Proofs.YtpnbjpkdbiiogaaGreat
/- THE CELL 'sum', in the pinned program and in every row, IS THE sha256 OF THE DUMP (.gsa) THAT YtpnbjpkdbiiogaaGreatProg.lean LOADS. Nothing in Lean hashes anything: it is a label: what it is worth is what the hold of that sum in a sandbox is worth. -/
noncomputable def Tryz.pinned : Pinned := { name := "ytpnbjpkdbiiogaagreat", sum := "0c77c8ee8a8ee3a94e8e2118e327d6df358e352670af1b604d615479aeb58b8c", checked := Tryz.checked }
namespace Rows
def none {H : Type} : Left H := { results := [], args := [] }

/-- 'logbooklaw08.VdiskSafe': WHATEVER THE INPUT: true; the input reads as it did. -/
def vdiskSafeSpec : ChangeSpec := { name := "vdiskSafe", fn := fun _ => fun
  | [d1, d2] => { results := [.lit (.bool true)], args := [d1, d2] }
  | _ => none }
def vdiskSafeRow : OpenClaim := { program := "ytpnbjpkdbiiogaagreat", sum := "0c77c8ee8a8ee3a94e8e2118e327d6df358e352670af1b604d615479aeb58b8c", func := "logbook/logbooklaw08.VdiskSafe", spec := "vdiskSafe", inPlace := ["maps.clone"], unfollowed := true, recurses := true, apart := false }
def VdiskSafeSaid : Prop := vdiskSafeRow.holds Tryz.pinned (OpenSpec.ofChange vdiskSafeSpec)

/-- ITS FALSE NEIGHBOUR: 'it returns false'. Refute it at one input. -/
def vdiskSafeWrong : ChangeSpec := { name := "vdiskSafe", fn := fun _ => fun
  | [d1, d2] => { results := [.lit (.bool false)], args := [d1, d2] }
  | _ => none }
def VdiskSafeWrongFalsely : Prop := vdiskSafeRow.holds Tryz.pinned (OpenSpec.ofChange vdiskSafeWrong)

/-- 'logbooklaw08.VdiskPlays': WHATEVER THE INPUT: true; the input reads as it did. -/
def vdiskPlaysSpec : ChangeSpec := { name := "vdiskPlays", fn := fun _ => fun
  | [d1, d2] => { results := [.lit (.bool true)], args := [d1, d2] }
  | _ => none }
def vdiskPlaysRow : OpenClaim := { program := "ytpnbjpkdbiiogaagreat", sum := "0c77c8ee8a8ee3a94e8e2118e327d6df358e352670af1b604d615479aeb58b8c", func := "logbook/logbooklaw08.VdiskPlays", spec := "vdiskPlays", inPlace := ["maps.clone"], unfollowed := true, recurses := true, apart := false }
def VdiskPlaysSaid : Prop := vdiskPlaysRow.holds Tryz.pinned (OpenSpec.ofChange vdiskPlaysSpec)

/-- ITS FALSE NEIGHBOUR: 'it returns false'. Refute it at one input. -/
def vdiskPlaysWrong : ChangeSpec := { name := "vdiskPlays", fn := fun _ => fun
  | [d1, d2] => { results := [.lit (.bool false)], args := [d1, d2] }
  | _ => none }
def VdiskPlaysWrongFalsely : Prop := vdiskPlaysRow.holds Tryz.pinned (OpenSpec.ofChange vdiskPlaysWrong)

/-- 'logbooklaw08.VdiskRoom': WHATEVER THE INPUT: true; the input reads as it did. -/
def vdiskRoomSpec : ChangeSpec := { name := "vdiskRoom", fn := fun _ => fun
  | [d1, d2] => { results := [.lit (.bool true)], args := [d1, d2] }
  | _ => none }
def vdiskRoomRow : OpenClaim := { program := "ytpnbjpkdbiiogaagreat", sum := "0c77c8ee8a8ee3a94e8e2118e327d6df358e352670af1b604d615479aeb58b8c", func := "logbook/logbooklaw08.VdiskRoom", spec := "vdiskRoom", inPlace := ["maps.clone"], unfollowed := true, recurses := true, apart := false }
def VdiskRoomSaid : Prop := vdiskRoomRow.holds Tryz.pinned (OpenSpec.ofChange vdiskRoomSpec)

/-- ITS FALSE NEIGHBOUR: 'it returns false'. Refute it at one input. -/
def vdiskRoomWrong : ChangeSpec := { name := "vdiskRoom", fn := fun _ => fun
  | [d1, d2] => { results := [.lit (.bool false)], args := [d1, d2] }
  | _ => none }
def VdiskRoomWrongFalsely : Prop := vdiskRoomRow.holds Tryz.pinned (OpenSpec.ofChange vdiskRoomWrong)

/- THE SECOND FORM. 'bulk': how many values and letters a reading holds, each counted each time it is reached (what is shared counts as often as it is met; a slice's spare places count too). A statement '..UptoSaid' is the law's where the arguments, and the package variables that the reading takes, are together of bulk at most 1048576: NARROWER than '..Said'. Prove '..Said' where nothing that the law and all that it calls make is longer than what came in: it says more and counts as full. Else prove '..UptoSaid'. A law counts once. -/
mutual
def uptoBulk {H : Type} : DataW H → Nat
  | .lit (.string bytes) => bytes.length + 1
  | .lit _ => 1
  | .nil => 1
  | .ptr d => uptoBulk d + 1
  | .slice elems spare => uptoBulkAll elems + uptoBulkAll spare + 1
  | .agg parts => uptoBulkAll parts + 1
  | .iface _ d => uptoBulk d + 1
  | .map entries => uptoBulkEntries entries + 1
  | .held _ => 1
def uptoBulkAll {H : Type} : List (DataW H) → Nat
  | [] => 0
  | d :: r => uptoBulk d + uptoBulkAll r
def uptoBulkEntries {H : Type} : List (Lit × DataW H) → Nat
  | [] => 0
  | x :: r => uptoBulkEntry x + uptoBulkEntries r
def uptoBulkEntry {H : Type} : Lit × DataW H → Nat
  | (.string bytes, d) => bytes.length + uptoBulk d + 1
  | (_, d) => uptoBulk d + 1
 end
def uptoSmall : (H : Type) → List (DataW H) → Bool := fun _ ds => decide (uptoBulkAll ds ≤ 1048576)
def OpenSpec.upto (s : _root_.Go.ChangeSpec) : _root_.Go.OpenSpec := { _root_.Go.OpenSpec.ofChange s with cond := some uptoSmall }

/-- 'logbooklaw08.VdiskSafe', WHERE WHAT IT READS IS OF BULK AT MOST 1048576: true; the input reads as it did. -/
def vdiskSafeUptoRow : OpenClaim := { program := "ytpnbjpkdbiiogaagreat", sum := "0c77c8ee8a8ee3a94e8e2118e327d6df358e352670af1b604d615479aeb58b8c", func := "logbook/logbooklaw08.VdiskSafe", spec := "vdiskSafe", inPlace := ["maps.clone"], unfollowed := true, recurses := true, apart := false, narrowed := true }
def VdiskSafeUptoSaid : Prop := vdiskSafeUptoRow.holds Tryz.pinned (OpenSpec.upto vdiskSafeSpec)

/-- 'logbooklaw08.VdiskPlays', WHERE WHAT IT READS IS OF BULK AT MOST 1048576: true; the input reads as it did. -/
def vdiskPlaysUptoRow : OpenClaim := { program := "ytpnbjpkdbiiogaagreat", sum := "0c77c8ee8a8ee3a94e8e2118e327d6df358e352670af1b604d615479aeb58b8c", func := "logbook/logbooklaw08.VdiskPlays", spec := "vdiskPlays", inPlace := ["maps.clone"], unfollowed := true, recurses := true, apart := false, narrowed := true }
def VdiskPlaysUptoSaid : Prop := vdiskPlaysUptoRow.holds Tryz.pinned (OpenSpec.upto vdiskPlaysSpec)

/-- 'logbooklaw08.VdiskRoom', WHERE WHAT IT READS IS OF BULK AT MOST 1048576: true; the input reads as it did. -/
def vdiskRoomUptoRow : OpenClaim := { program := "ytpnbjpkdbiiogaagreat", sum := "0c77c8ee8a8ee3a94e8e2118e327d6df358e352670af1b604d615479aeb58b8c", func := "logbook/logbooklaw08.VdiskRoom", spec := "vdiskRoom", inPlace := ["maps.clone"], unfollowed := true, recurses := true, apart := false, narrowed := true }
def VdiskRoomUptoSaid : Prop := vdiskRoomUptoRow.holds Tryz.pinned (OpenSpec.upto vdiskRoomSpec)

end Rows
end Go.Proofs.YtpnbjpkdbiiogaaGreat
