/-
  No cell of these rows narrows 'for every input' (looked for: loops, veiled, ifaces, maps, wideKeys, modest, calm, conditions, laid).
  DERIVED. THE GIVEN ROWS OF THIS SEAT. 12 by the template 'for every input the law returns true; each argument reads behind the call as it read before'; 0 by the template 'total and deterministic' (their statements: YtpnbjpkdbiiogaaTotals.lean).
  GIVEN WITH THE SEED: the statements are not yours to turn. If you find one false, say at which input.
  Laid BY PROGRAM, IN A SANDBOX (cutbox-rows.mjs): the forced cells as the released guide's own fill.sh prints them over the translation 593f82cb644a5a7c… (all of the seat's roots in one cut). By AI agents, Wed Nov 11 2026. No macro, syntax, notation, axiom, sorry.
-/
import Derived.Test.YtpnbjpkdbiiogaaChecked
import GoSem.Claim
import GoSem.ClaimJoined
import GoSem.ClaimMapViews
import Derived.JoinedTies
import Derived.KernelRfl
namespace Go.Proofs.Ytpnbjpkdbiiogaa
/- THE CELL 'sum', in the pinned program and in every row, IS THE sha256 OF THE DUMP (.gsa) THAT YtpnbjpkdbiiogaaProg.lean LOADS. Nothing in Lean hashes anything: it is a label: what it is worth is what the hold of that sum in a sandbox is worth. -/
noncomputable def Try.pinned : Pinned := { name := "ytpnbjpkdbiiogaa", sum := "593f82cb644a5a7c50453875220d6a733f537a22b6bc5baf5fb1a9d803b9020e", checked := Try.checked }
namespace Rows
def none {H : Type} : Left H := { results := [], args := [] }

/-- 'logbooklaw05.SectorCuts': WHATEVER THE INPUT: true; the input reads as it did. -/
def sectorCutsSpec : ChangeSpec := { name := "sectorCuts", fn := fun _ => fun
  | [d1, d2, d3] => { results := [.lit (.bool true)], args := [d1, d2, d3] }
  | _ => none }
def sectorCutsRow : OpenClaim := { program := "ytpnbjpkdbiiogaa", sum := "593f82cb644a5a7c50453875220d6a733f537a22b6bc5baf5fb1a9d803b9020e", func := "logbook/logbooklaw05.SectorCuts", spec := "sectorCuts", plainKeys := false, apart := false }
def SectorCutsSaid : Prop := sectorCutsRow.holds Try.pinned (OpenSpec.ofChange sectorCutsSpec)

/-- ITS FALSE NEIGHBOUR: 'it returns false'. Refute it at one input. -/
def sectorCutsWrong : ChangeSpec := { name := "sectorCuts", fn := fun _ => fun
  | [d1, d2, d3] => { results := [.lit (.bool false)], args := [d1, d2, d3] }
  | _ => none }
def SectorCutsWrongFalsely : Prop := sectorCutsRow.holds Try.pinned (OpenSpec.ofChange sectorCutsWrong)

/-- 'logbooklaw05.SectorLays': WHATEVER THE INPUT: true; the input reads as it did. -/
def sectorLaysSpec : ChangeSpec := { name := "sectorLays", fn := fun _ => fun
  | [d1, d2, d3, d4] => { results := [.lit (.bool true)], args := [d1, d2, d3, d4] }
  | _ => none }
def sectorLaysRow : OpenClaim := { program := "ytpnbjpkdbiiogaa", sum := "593f82cb644a5a7c50453875220d6a733f537a22b6bc5baf5fb1a9d803b9020e", func := "logbook/logbooklaw05.SectorLays", spec := "sectorLays", plainKeys := false, apart := false }
def SectorLaysSaid : Prop := sectorLaysRow.holds Try.pinned (OpenSpec.ofChange sectorLaysSpec)

/-- ITS FALSE NEIGHBOUR: 'it returns false'. Refute it at one input. -/
def sectorLaysWrong : ChangeSpec := { name := "sectorLays", fn := fun _ => fun
  | [d1, d2, d3, d4] => { results := [.lit (.bool false)], args := [d1, d2, d3, d4] }
  | _ => none }
def SectorLaysWrongFalsely : Prop := sectorLaysRow.holds Try.pinned (OpenSpec.ofChange sectorLaysWrong)

/-- 'logbooklaw05.SectorWrites': WHATEVER THE INPUT: true; the input reads as it did. -/
def sectorWritesSpec : ChangeSpec := { name := "sectorWrites", fn := fun _ => fun
  | [d1, d2, d3] => { results := [.lit (.bool true)], args := [d1, d2, d3] }
  | _ => none }
def sectorWritesRow : OpenClaim := { program := "ytpnbjpkdbiiogaa", sum := "593f82cb644a5a7c50453875220d6a733f537a22b6bc5baf5fb1a9d803b9020e", func := "logbook/logbooklaw05.SectorWrites", spec := "sectorWrites", plainKeys := false, apart := false }
def SectorWritesSaid : Prop := sectorWritesRow.holds Try.pinned (OpenSpec.ofChange sectorWritesSpec)

/-- ITS FALSE NEIGHBOUR: 'it returns false'. Refute it at one input. -/
def sectorWritesWrong : ChangeSpec := { name := "sectorWrites", fn := fun _ => fun
  | [d1, d2, d3] => { results := [.lit (.bool false)], args := [d1, d2, d3] }
  | _ => none }
def SectorWritesWrongFalsely : Prop := sectorWritesRow.holds Try.pinned (OpenSpec.ofChange sectorWritesWrong)

/-- 'logbooklaw06.FilePlays': WHATEVER THE INPUT: true; the input reads as it did. -/
def filePlaysSpec : ChangeSpec := { name := "filePlays", fn := fun _ => fun
  | [d1, d2, d3] => { results := [.lit (.bool true)], args := [d1, d2, d3] }
  | _ => none }
def filePlaysRow : OpenClaim := { program := "ytpnbjpkdbiiogaa", sum := "593f82cb644a5a7c50453875220d6a733f537a22b6bc5baf5fb1a9d803b9020e", func := "logbook/logbooklaw06.FilePlays", spec := "filePlays", plainKeys := false, apart := false }
def FilePlaysSaid : Prop := filePlaysRow.holds Try.pinned (OpenSpec.ofChange filePlaysSpec)

/-- ITS FALSE NEIGHBOUR: 'it returns false'. Refute it at one input. -/
def filePlaysWrong : ChangeSpec := { name := "filePlays", fn := fun _ => fun
  | [d1, d2, d3] => { results := [.lit (.bool false)], args := [d1, d2, d3] }
  | _ => none }
def FilePlaysWrongFalsely : Prop := filePlaysRow.holds Try.pinned (OpenSpec.ofChange filePlaysWrong)

/-- 'logbooklaw06.FileSafe': WHATEVER THE INPUT: true; the input reads as it did. -/
def fileSafeSpec : ChangeSpec := { name := "fileSafe", fn := fun _ => fun
  | [d1, d2] => { results := [.lit (.bool true)], args := [d1, d2] }
  | _ => none }
def fileSafeRow : OpenClaim := { program := "ytpnbjpkdbiiogaa", sum := "593f82cb644a5a7c50453875220d6a733f537a22b6bc5baf5fb1a9d803b9020e", func := "logbook/logbooklaw06.FileSafe", spec := "fileSafe", plainKeys := false, apart := false }
def FileSafeSaid : Prop := fileSafeRow.holds Try.pinned (OpenSpec.ofChange fileSafeSpec)

/-- ITS FALSE NEIGHBOUR: 'it returns false'. Refute it at one input. -/
def fileSafeWrong : ChangeSpec := { name := "fileSafe", fn := fun _ => fun
  | [d1, d2] => { results := [.lit (.bool false)], args := [d1, d2] }
  | _ => none }
def FileSafeWrongFalsely : Prop := fileSafeRow.holds Try.pinned (OpenSpec.ofChange fileSafeWrong)

/-- 'logbooklaw06.FileCopies': WHATEVER THE INPUT: true; the input reads as it did. -/
def fileCopiesSpec : ChangeSpec := { name := "fileCopies", fn := fun _ => fun
  | [d1, d2] => { results := [.lit (.bool true)], args := [d1, d2] }
  | _ => none }
def fileCopiesRow : OpenClaim := { program := "ytpnbjpkdbiiogaa", sum := "593f82cb644a5a7c50453875220d6a733f537a22b6bc5baf5fb1a9d803b9020e", func := "logbook/logbooklaw06.FileCopies", spec := "fileCopies", plainKeys := false, apart := false }
def FileCopiesSaid : Prop := fileCopiesRow.holds Try.pinned (OpenSpec.ofChange fileCopiesSpec)

/-- ITS FALSE NEIGHBOUR: 'it returns false'. Refute it at one input. -/
def fileCopiesWrong : ChangeSpec := { name := "fileCopies", fn := fun _ => fun
  | [d1, d2] => { results := [.lit (.bool false)], args := [d1, d2] }
  | _ => none }
def FileCopiesWrongFalsely : Prop := fileCopiesRow.holds Try.pinned (OpenSpec.ofChange fileCopiesWrong)

/-- 'logbooklaw07.DirSafe': WHATEVER THE INPUT: true; the input reads as it did. -/
def dirSafeSpec : ChangeSpec := { name := "dirSafe", fn := fun _ => fun
  | [d1, d2] => { results := [.lit (.bool true)], args := [d1, d2] }
  | _ => none }
def dirSafeRow : OpenClaim := { program := "ytpnbjpkdbiiogaa", sum := "593f82cb644a5a7c50453875220d6a733f537a22b6bc5baf5fb1a9d803b9020e", func := "logbook/logbooklaw07.DirSafe", spec := "dirSafe", inPlace := ["maps.clone"], unfollowed := true, recurses := true, plainKeys := false, apart := false }
def DirSafeSaid : Prop := dirSafeRow.holds Try.pinned (OpenSpec.ofChange dirSafeSpec)

/-- ITS FALSE NEIGHBOUR: 'it returns false'. Refute it at one input. -/
def dirSafeWrong : ChangeSpec := { name := "dirSafe", fn := fun _ => fun
  | [d1, d2] => { results := [.lit (.bool false)], args := [d1, d2] }
  | _ => none }
def DirSafeWrongFalsely : Prop := dirSafeRow.holds Try.pinned (OpenSpec.ofChange dirSafeWrong)

/-- 'logbooklaw07.DirPlays': WHATEVER THE INPUT: true; the input reads as it did. -/
def dirPlaysSpec : ChangeSpec := { name := "dirPlays", fn := fun _ => fun
  | [d1, d2] => { results := [.lit (.bool true)], args := [d1, d2] }
  | _ => none }
def dirPlaysRow : OpenClaim := { program := "ytpnbjpkdbiiogaa", sum := "593f82cb644a5a7c50453875220d6a733f537a22b6bc5baf5fb1a9d803b9020e", func := "logbook/logbooklaw07.DirPlays", spec := "dirPlays", inPlace := ["maps.clone"], unfollowed := true, recurses := true, plainKeys := false, apart := false }
def DirPlaysSaid : Prop := dirPlaysRow.holds Try.pinned (OpenSpec.ofChange dirPlaysSpec)

/-- ITS FALSE NEIGHBOUR: 'it returns false'. Refute it at one input. -/
def dirPlaysWrong : ChangeSpec := { name := "dirPlays", fn := fun _ => fun
  | [d1, d2] => { results := [.lit (.bool false)], args := [d1, d2] }
  | _ => none }
def DirPlaysWrongFalsely : Prop := dirPlaysRow.holds Try.pinned (OpenSpec.ofChange dirPlaysWrong)

/-- 'logbooklaw07.DirNobody': WHATEVER THE INPUT: true; the input reads as it did. -/
def dirNobodySpec : ChangeSpec := { name := "dirNobody", fn := fun _ => fun
  | [d] => { results := [.lit (.bool true)], args := [d] }
  | _ => none }
def dirNobodyRow : OpenClaim := { program := "ytpnbjpkdbiiogaa", sum := "593f82cb644a5a7c50453875220d6a733f537a22b6bc5baf5fb1a9d803b9020e", func := "logbook/logbooklaw07.DirNobody", spec := "dirNobody", inPlace := ["maps.clone"], unfollowed := true, recurses := true, plainKeys := false, apart := false }
def DirNobodySaid : Prop := dirNobodyRow.holds Try.pinned (OpenSpec.ofChange dirNobodySpec)

/-- ITS FALSE NEIGHBOUR: 'it returns false'. Refute it at one input. -/
def dirNobodyWrong : ChangeSpec := { name := "dirNobody", fn := fun _ => fun
  | [d] => { results := [.lit (.bool false)], args := [d] }
  | _ => none }
def DirNobodyWrongFalsely : Prop := dirNobodyRow.holds Try.pinned (OpenSpec.ofChange dirNobodyWrong)

/-- 'logbooklaw43.WindowReads': WHATEVER THE INPUT: true; the input reads as it did. -/
def windowReadsSpec : ChangeSpec := { name := "windowReads", fn := fun _ => fun
  | [d1, d2] => { results := [.lit (.bool true)], args := [d1, d2] }
  | _ => none }
def windowReadsRow : OpenClaim := { program := "ytpnbjpkdbiiogaa", sum := "593f82cb644a5a7c50453875220d6a733f537a22b6bc5baf5fb1a9d803b9020e", func := "logbook/logbooklaw43.WindowReads", spec := "windowReads", unfollowed := true, recurses := true, plainKeys := false, apart := false }
def WindowReadsSaid : Prop := windowReadsRow.holds Try.pinned (OpenSpec.ofChange windowReadsSpec)

/-- ITS FALSE NEIGHBOUR: 'it returns false'. Refute it at one input. -/
def windowReadsWrong : ChangeSpec := { name := "windowReads", fn := fun _ => fun
  | [d1, d2] => { results := [.lit (.bool false)], args := [d1, d2] }
  | _ => none }
def WindowReadsWrongFalsely : Prop := windowReadsRow.holds Try.pinned (OpenSpec.ofChange windowReadsWrong)

/-- 'logbooklaw43.WindowSame': WHATEVER THE INPUT: true; the input reads as it did. -/
def windowSameSpec : ChangeSpec := { name := "windowSame", fn := fun _ => fun
  | [d1, d2, d3] => { results := [.lit (.bool true)], args := [d1, d2, d3] }
  | _ => none }
def windowSameRow : OpenClaim := { program := "ytpnbjpkdbiiogaa", sum := "593f82cb644a5a7c50453875220d6a733f537a22b6bc5baf5fb1a9d803b9020e", func := "logbook/logbooklaw43.WindowSame", spec := "windowSame", unfollowed := true, recurses := true, plainKeys := false, apart := false }
def WindowSameSaid : Prop := windowSameRow.holds Try.pinned (OpenSpec.ofChange windowSameSpec)

/-- ITS FALSE NEIGHBOUR: 'it returns false'. Refute it at one input. -/
def windowSameWrong : ChangeSpec := { name := "windowSame", fn := fun _ => fun
  | [d1, d2, d3] => { results := [.lit (.bool false)], args := [d1, d2, d3] }
  | _ => none }
def WindowSameWrongFalsely : Prop := windowSameRow.holds Try.pinned (OpenSpec.ofChange windowSameWrong)

/-- 'logbooklaw08.VdiskNobody': WHATEVER THE INPUT: true; the input reads as it did. -/
def vdiskNobodySpec : ChangeSpec := { name := "vdiskNobody", fn := fun _ => fun
  | [d] => { results := [.lit (.bool true)], args := [d] }
  | _ => none }
def vdiskNobodyRow : OpenClaim := { program := "ytpnbjpkdbiiogaa", sum := "593f82cb644a5a7c50453875220d6a733f537a22b6bc5baf5fb1a9d803b9020e", func := "logbook/logbooklaw08.VdiskNobody", spec := "vdiskNobody", inPlace := ["maps.clone"], unfollowed := true, recurses := true, plainKeys := false, apart := false }
def VdiskNobodySaid : Prop := vdiskNobodyRow.holds Try.pinned (OpenSpec.ofChange vdiskNobodySpec)

/-- ITS FALSE NEIGHBOUR: 'it returns false'. Refute it at one input. -/
def vdiskNobodyWrong : ChangeSpec := { name := "vdiskNobody", fn := fun _ => fun
  | [d] => { results := [.lit (.bool false)], args := [d] }
  | _ => none }
def VdiskNobodyWrongFalsely : Prop := vdiskNobodyRow.holds Try.pinned (OpenSpec.ofChange vdiskNobodyWrong)

/- THE SECOND FORM. 'bulk': how many values and letters a reading holds, each counted each time it is reached (what is shared counts as often as it is met; a slice's spare places count too). A statement '..UptoSaid' is the law's where the arguments, and the package variables that the reading takes, are together of bulk at most 1048576: NARROWER than '..Said'. Prove '..Said' where nothing that the law and all that it calls make is longer than what came in: it says more and counts as full. Else prove '..UptoSaid'. A law counts once. -/
mutual
def uptoBulk {H : Type} : DataW H → Nat
  | .lit (.string bytes) => bytes.length + 1
  | .lit _ => 1
  | .nil => 1
  | .ptr d => uptoBulk d + 1
  | .slice elems spare => uptoBulkAll elems + uptoBulkAll spare + 1
  | .agg parts => uptoBulkAll parts + 1
  | .iface _ d => uptoBulk d + 1
  | .map entries => uptoBulkEntries entries + 1
  | .held _ => 1
def uptoBulkAll {H : Type} : List (DataW H) → Nat
  | [] => 0
  | d :: r => uptoBulk d + uptoBulkAll r
def uptoBulkEntries {H : Type} : List (Lit × DataW H) → Nat
  | [] => 0
  | x :: r => uptoBulkEntry x + uptoBulkEntries r
def uptoBulkEntry {H : Type} : Lit × DataW H → Nat
  | (.string bytes, d) => bytes.length + uptoBulk d + 1
  | (_, d) => uptoBulk d + 1
 end
def uptoSmall : (H : Type) → List (DataW H) → Bool := fun _ ds => decide (uptoBulkAll ds ≤ 1048576)
def OpenSpec.upto (s : _root_.Go.ChangeSpec) : _root_.Go.OpenSpec := { _root_.Go.OpenSpec.ofChange s with cond := some uptoSmall }

/-- 'logbooklaw05.SectorCuts', WHERE WHAT IT READS IS OF BULK AT MOST 1048576: true; the input reads as it did. -/
def sectorCutsUptoRow : OpenClaim := { program := "ytpnbjpkdbiiogaa", sum := "593f82cb644a5a7c50453875220d6a733f537a22b6bc5baf5fb1a9d803b9020e", func := "logbook/logbooklaw05.SectorCuts", spec := "sectorCuts", plainKeys := false, apart := false, narrowed := true }
def SectorCutsUptoSaid : Prop := sectorCutsUptoRow.holds Try.pinned (OpenSpec.upto sectorCutsSpec)

/-- 'logbooklaw05.SectorLays', WHERE WHAT IT READS IS OF BULK AT MOST 1048576: true; the input reads as it did. -/
def sectorLaysUptoRow : OpenClaim := { program := "ytpnbjpkdbiiogaa", sum := "593f82cb644a5a7c50453875220d6a733f537a22b6bc5baf5fb1a9d803b9020e", func := "logbook/logbooklaw05.SectorLays", spec := "sectorLays", plainKeys := false, apart := false, narrowed := true }
def SectorLaysUptoSaid : Prop := sectorLaysUptoRow.holds Try.pinned (OpenSpec.upto sectorLaysSpec)

/-- 'logbooklaw05.SectorWrites', WHERE WHAT IT READS IS OF BULK AT MOST 1048576: true; the input reads as it did. -/
def sectorWritesUptoRow : OpenClaim := { program := "ytpnbjpkdbiiogaa", sum := "593f82cb644a5a7c50453875220d6a733f537a22b6bc5baf5fb1a9d803b9020e", func := "logbook/logbooklaw05.SectorWrites", spec := "sectorWrites", plainKeys := false, apart := false, narrowed := true }
def SectorWritesUptoSaid : Prop := sectorWritesUptoRow.holds Try.pinned (OpenSpec.upto sectorWritesSpec)

/-- 'logbooklaw06.FilePlays', WHERE WHAT IT READS IS OF BULK AT MOST 1048576: true; the input reads as it did. -/
def filePlaysUptoRow : OpenClaim := { program := "ytpnbjpkdbiiogaa", sum := "593f82cb644a5a7c50453875220d6a733f537a22b6bc5baf5fb1a9d803b9020e", func := "logbook/logbooklaw06.FilePlays", spec := "filePlays", plainKeys := false, apart := false, narrowed := true }
def FilePlaysUptoSaid : Prop := filePlaysUptoRow.holds Try.pinned (OpenSpec.upto filePlaysSpec)

/-- 'logbooklaw06.FileSafe', WHERE WHAT IT READS IS OF BULK AT MOST 1048576: true; the input reads as it did. -/
def fileSafeUptoRow : OpenClaim := { program := "ytpnbjpkdbiiogaa", sum := "593f82cb644a5a7c50453875220d6a733f537a22b6bc5baf5fb1a9d803b9020e", func := "logbook/logbooklaw06.FileSafe", spec := "fileSafe", plainKeys := false, apart := false, narrowed := true }
def FileSafeUptoSaid : Prop := fileSafeUptoRow.holds Try.pinned (OpenSpec.upto fileSafeSpec)

/-- 'logbooklaw06.FileCopies', WHERE WHAT IT READS IS OF BULK AT MOST 1048576: true; the input reads as it did. -/
def fileCopiesUptoRow : OpenClaim := { program := "ytpnbjpkdbiiogaa", sum := "593f82cb644a5a7c50453875220d6a733f537a22b6bc5baf5fb1a9d803b9020e", func := "logbook/logbooklaw06.FileCopies", spec := "fileCopies", plainKeys := false, apart := false, narrowed := true }
def FileCopiesUptoSaid : Prop := fileCopiesUptoRow.holds Try.pinned (OpenSpec.upto fileCopiesSpec)

/-- 'logbooklaw07.DirSafe', WHERE WHAT IT READS IS OF BULK AT MOST 1048576: true; the input reads as it did. -/
def dirSafeUptoRow : OpenClaim := { program := "ytpnbjpkdbiiogaa", sum := "593f82cb644a5a7c50453875220d6a733f537a22b6bc5baf5fb1a9d803b9020e", func := "logbook/logbooklaw07.DirSafe", spec := "dirSafe", inPlace := ["maps.clone"], unfollowed := true, recurses := true, plainKeys := false, apart := false, narrowed := true }
def DirSafeUptoSaid : Prop := dirSafeUptoRow.holds Try.pinned (OpenSpec.upto dirSafeSpec)

/-- 'logbooklaw07.DirPlays', WHERE WHAT IT READS IS OF BULK AT MOST 1048576: true; the input reads as it did. -/
def dirPlaysUptoRow : OpenClaim := { program := "ytpnbjpkdbiiogaa", sum := "593f82cb644a5a7c50453875220d6a733f537a22b6bc5baf5fb1a9d803b9020e", func := "logbook/logbooklaw07.DirPlays", spec := "dirPlays", inPlace := ["maps.clone"], unfollowed := true, recurses := true, plainKeys := false, apart := false, narrowed := true }
def DirPlaysUptoSaid : Prop := dirPlaysUptoRow.holds Try.pinned (OpenSpec.upto dirPlaysSpec)

/-- 'logbooklaw07.DirNobody', WHERE WHAT IT READS IS OF BULK AT MOST 1048576: true; the input reads as it did. -/
def dirNobodyUptoRow : OpenClaim := { program := "ytpnbjpkdbiiogaa", sum := "593f82cb644a5a7c50453875220d6a733f537a22b6bc5baf5fb1a9d803b9020e", func := "logbook/logbooklaw07.DirNobody", spec := "dirNobody", inPlace := ["maps.clone"], unfollowed := true, recurses := true, plainKeys := false, apart := false, narrowed := true }
def DirNobodyUptoSaid : Prop := dirNobodyUptoRow.holds Try.pinned (OpenSpec.upto dirNobodySpec)

/-- 'logbooklaw43.WindowReads', WHERE WHAT IT READS IS OF BULK AT MOST 1048576: true; the input reads as it did. -/
def windowReadsUptoRow : OpenClaim := { program := "ytpnbjpkdbiiogaa", sum := "593f82cb644a5a7c50453875220d6a733f537a22b6bc5baf5fb1a9d803b9020e", func := "logbook/logbooklaw43.WindowReads", spec := "windowReads", unfollowed := true, recurses := true, plainKeys := false, apart := false, narrowed := true }
def WindowReadsUptoSaid : Prop := windowReadsUptoRow.holds Try.pinned (OpenSpec.upto windowReadsSpec)

/-- 'logbooklaw43.WindowSame', WHERE WHAT IT READS IS OF BULK AT MOST 1048576: true; the input reads as it did. -/
def windowSameUptoRow : OpenClaim := { program := "ytpnbjpkdbiiogaa", sum := "593f82cb644a5a7c50453875220d6a733f537a22b6bc5baf5fb1a9d803b9020e", func := "logbook/logbooklaw43.WindowSame", spec := "windowSame", unfollowed := true, recurses := true, plainKeys := false, apart := false, narrowed := true }
def WindowSameUptoSaid : Prop := windowSameUptoRow.holds Try.pinned (OpenSpec.upto windowSameSpec)

/-- 'logbooklaw08.VdiskNobody', WHERE WHAT IT READS IS OF BULK AT MOST 1048576: true; the input reads as it did. -/
def vdiskNobodyUptoRow : OpenClaim := { program := "ytpnbjpkdbiiogaa", sum := "593f82cb644a5a7c50453875220d6a733f537a22b6bc5baf5fb1a9d803b9020e", func := "logbook/logbooklaw08.VdiskNobody", spec := "vdiskNobody", inPlace := ["maps.clone"], unfollowed := true, recurses := true, plainKeys := false, apart := false, narrowed := true }
def VdiskNobodyUptoSaid : Prop := vdiskNobodyUptoRow.holds Try.pinned (OpenSpec.upto vdiskNobodySpec)

end Rows
end Go.Proofs.Ytpnbjpkdbiiogaa
