/-
  No cell of these rows narrows 'for every input' (looked for: loops, veiled, ifaces, maps, wideKeys, modest, calm, conditions, laid).
  DERIVED. THE GIVEN ROWS OF THIS SEAT. 10 by the template 'for every input the law returns true; each argument reads behind the call as it read before'; 0 by the template 'total and deterministic' (their statements: YtldiginkmmlojaaTotals.lean).
  GIVEN WITH THE SEED: the statements are not yours to turn. If you find one false, say at which input.
  Laid BY PROGRAM, IN A SANDBOX (cutbox-rows.mjs): the forced cells as the released guide's own fill.sh prints them over the translation 6d136c556eb78c23… (all of the seat's roots in one cut). By AI agents, Wed Nov 11 2026. No macro, syntax, notation, axiom, sorry.
-/
import Derived.Test.YtldiginkmmlojaaChecked
import GoSem.Claim
import GoSem.ClaimJoined
import GoSem.ClaimMapViews
import Derived.JoinedTies
import Derived.KernelRfl
namespace Go.Proofs.Ytldiginkmmlojaa
/- THE CELL 'sum', in the pinned program and in every row, IS THE sha256 OF THE DUMP (.gsa) THAT YtldiginkmmlojaaProg.lean LOADS. Nothing in Lean hashes anything: it is a label: what it is worth is what the hold of that sum in a sandbox is worth. -/
noncomputable def Try.pinned : Pinned := { name := "ytldiginkmmlojaa", sum := "6d136c556eb78c23e0cd3edff973fe30d94acc7729b11a2bf588626c500cb5c5", checked := Try.checked }
namespace Rows
def none {H : Type} : Left H := { results := [], args := [] }

/-- 'logbooklaw41.StatsBoots': WHATEVER THE INPUT: true; the input reads as it did. -/
def statsBootsSpec : ChangeSpec := { name := "statsBoots", fn := fun _ => fun
  | [d] => { results := [.lit (.bool true)], args := [d] }
  | _ => none }
def statsBootsRow : OpenClaim := { program := "ytldiginkmmlojaa", sum := "6d136c556eb78c23e0cd3edff973fe30d94acc7729b11a2bf588626c500cb5c5", func := "logbook/logbooklaw41.StatsBoots", spec := "statsBoots", unfollowed := true, recurses := true, apart := false }
def StatsBootsSaid : Prop := statsBootsRow.holds Try.pinned (OpenSpec.ofChange statsBootsSpec)

/-- ITS FALSE NEIGHBOUR: 'it returns false'. Refute it at one input. -/
def statsBootsWrong : ChangeSpec := { name := "statsBoots", fn := fun _ => fun
  | [d] => { results := [.lit (.bool false)], args := [d] }
  | _ => none }
def StatsBootsWrongFalsely : Prop := statsBootsRow.holds Try.pinned (OpenSpec.ofChange statsBootsWrong)

/-- 'logbooklaw21.StampPlays': WHATEVER THE INPUT: true; the input reads as it did. -/
def stampPlaysSpec : ChangeSpec := { name := "stampPlays", fn := fun _ => fun
  | [d1, d2, d3, d4, d5] => { results := [.lit (.bool true)], args := [d1, d2, d3, d4, d5] }
  | _ => none }
def stampPlaysRow : OpenClaim := { program := "ytldiginkmmlojaa", sum := "6d136c556eb78c23e0cd3edff973fe30d94acc7729b11a2bf588626c500cb5c5", func := "logbook/logbooklaw21.StampPlays", spec := "stampPlays", apart := false }
def StampPlaysSaid : Prop := stampPlaysRow.holds Try.pinned (OpenSpec.ofChange stampPlaysSpec)

/-- ITS FALSE NEIGHBOUR: 'it returns false'. Refute it at one input. -/
def stampPlaysWrong : ChangeSpec := { name := "stampPlays", fn := fun _ => fun
  | [d1, d2, d3, d4, d5] => { results := [.lit (.bool false)], args := [d1, d2, d3, d4, d5] }
  | _ => none }
def StampPlaysWrongFalsely : Prop := stampPlaysRow.holds Try.pinned (OpenSpec.ofChange stampPlaysWrong)

/-- 'logbooklaw21.StampRises': WHATEVER THE INPUT: true; the input reads as it did. -/
def stampRisesSpec : ChangeSpec := { name := "stampRises", fn := fun _ => fun
  | [d1, d2] => { results := [.lit (.bool true)], args := [d1, d2] }
  | _ => none }
def stampRisesRow : OpenClaim := { program := "ytldiginkmmlojaa", sum := "6d136c556eb78c23e0cd3edff973fe30d94acc7729b11a2bf588626c500cb5c5", func := "logbook/logbooklaw21.StampRises", spec := "stampRises", apart := false }
def StampRisesSaid : Prop := stampRisesRow.holds Try.pinned (OpenSpec.ofChange stampRisesSpec)

/-- ITS FALSE NEIGHBOUR: 'it returns false'. Refute it at one input. -/
def stampRisesWrong : ChangeSpec := { name := "stampRises", fn := fun _ => fun
  | [d1, d2] => { results := [.lit (.bool false)], args := [d1, d2] }
  | _ => none }
def StampRisesWrongFalsely : Prop := stampRisesRow.holds Try.pinned (OpenSpec.ofChange stampRisesWrong)

/-- 'logbooklaw37.StreamSays': WHATEVER THE INPUT: true; the input reads as it did. -/
def streamSaysSpec : ChangeSpec := { name := "streamSays", fn := fun _ => fun
  | [d] => { results := [.lit (.bool true)], args := [d] }
  | _ => none }
def streamSaysRow : OpenClaim := { program := "ytldiginkmmlojaa", sum := "6d136c556eb78c23e0cd3edff973fe30d94acc7729b11a2bf588626c500cb5c5", func := "logbook/logbooklaw37.StreamSays", spec := "streamSays", apart := false }
def StreamSaysSaid : Prop := streamSaysRow.holds Try.pinned (OpenSpec.ofChange streamSaysSpec)

/-- ITS FALSE NEIGHBOUR: 'it returns false'. Refute it at one input. -/
def streamSaysWrong : ChangeSpec := { name := "streamSays", fn := fun _ => fun
  | [d] => { results := [.lit (.bool false)], args := [d] }
  | _ => none }
def StreamSaysWrongFalsely : Prop := streamSaysRow.holds Try.pinned (OpenSpec.ofChange streamSaysWrong)

/-- 'logbooklaw25.MergeMerges': WHATEVER THE INPUT: true; the input reads as it did. -/
def mergeMergesSpec : ChangeSpec := { name := "mergeMerges", fn := fun _ => fun
  | [d1, d2] => { results := [.lit (.bool true)], args := [d1, d2] }
  | _ => none }
def mergeMergesRow : OpenClaim := { program := "ytldiginkmmlojaa", sum := "6d136c556eb78c23e0cd3edff973fe30d94acc7729b11a2bf588626c500cb5c5", func := "logbook/logbooklaw25.MergeMerges", spec := "mergeMerges", unfollowed := true, recurses := true, apart := false }
def MergeMergesSaid : Prop := mergeMergesRow.holds Try.pinned (OpenSpec.ofChange mergeMergesSpec)

/-- ITS FALSE NEIGHBOUR: 'it returns false'. Refute it at one input. -/
def mergeMergesWrong : ChangeSpec := { name := "mergeMerges", fn := fun _ => fun
  | [d1, d2] => { results := [.lit (.bool false)], args := [d1, d2] }
  | _ => none }
def MergeMergesWrongFalsely : Prop := mergeMergesRow.holds Try.pinned (OpenSpec.ofChange mergeMergesWrong)

/-- 'logbooklaw37.StreamCuts': WHATEVER THE INPUT: true; the input reads as it did. -/
def streamCutsSpec : ChangeSpec := { name := "streamCuts", fn := fun _ => fun
  | [d1, d2] => { results := [.lit (.bool true)], args := [d1, d2] }
  | _ => none }
def streamCutsRow : OpenClaim := { program := "ytldiginkmmlojaa", sum := "6d136c556eb78c23e0cd3edff973fe30d94acc7729b11a2bf588626c500cb5c5", func := "logbook/logbooklaw37.StreamCuts", spec := "streamCuts", apart := false }
def StreamCutsSaid : Prop := streamCutsRow.holds Try.pinned (OpenSpec.ofChange streamCutsSpec)

/-- ITS FALSE NEIGHBOUR: 'it returns false'. Refute it at one input. -/
def streamCutsWrong : ChangeSpec := { name := "streamCuts", fn := fun _ => fun
  | [d1, d2] => { results := [.lit (.bool false)], args := [d1, d2] }
  | _ => none }
def StreamCutsWrongFalsely : Prop := streamCutsRow.holds Try.pinned (OpenSpec.ofChange streamCutsWrong)

/-- 'logbooklaw25.MergeFilters': WHATEVER THE INPUT: true; the input reads as it did. -/
def mergeFiltersSpec : ChangeSpec := { name := "mergeFilters", fn := fun _ => fun
  | [d1, d2, d3] => { results := [.lit (.bool true)], args := [d1, d2, d3] }
  | _ => none }
def mergeFiltersRow : OpenClaim := { program := "ytldiginkmmlojaa", sum := "6d136c556eb78c23e0cd3edff973fe30d94acc7729b11a2bf588626c500cb5c5", func := "logbook/logbooklaw25.MergeFilters", spec := "mergeFilters", unfollowed := true, recurses := true, apart := false }
def MergeFiltersSaid : Prop := mergeFiltersRow.holds Try.pinned (OpenSpec.ofChange mergeFiltersSpec)

/-- ITS FALSE NEIGHBOUR: 'it returns false'. Refute it at one input. -/
def mergeFiltersWrong : ChangeSpec := { name := "mergeFilters", fn := fun _ => fun
  | [d1, d2, d3] => { results := [.lit (.bool false)], args := [d1, d2, d3] }
  | _ => none }
def MergeFiltersWrongFalsely : Prop := mergeFiltersRow.holds Try.pinned (OpenSpec.ofChange mergeFiltersWrong)

/-- 'logbooklaw41.StatsTimes': WHATEVER THE INPUT: true; the input reads as it did. -/
def statsTimesSpec : ChangeSpec := { name := "statsTimes", fn := fun _ => fun
  | [d1, d2] => { results := [.lit (.bool true)], args := [d1, d2] }
  | _ => none }
def statsTimesRow : OpenClaim := { program := "ytldiginkmmlojaa", sum := "6d136c556eb78c23e0cd3edff973fe30d94acc7729b11a2bf588626c500cb5c5", func := "logbook/logbooklaw41.StatsTimes", spec := "statsTimes", unfollowed := true, recurses := true, apart := false }
def StatsTimesSaid : Prop := statsTimesRow.holds Try.pinned (OpenSpec.ofChange statsTimesSpec)

/-- ITS FALSE NEIGHBOUR: 'it returns false'. Refute it at one input. -/
def statsTimesWrong : ChangeSpec := { name := "statsTimes", fn := fun _ => fun
  | [d1, d2] => { results := [.lit (.bool false)], args := [d1, d2] }
  | _ => none }
def StatsTimesWrongFalsely : Prop := statsTimesRow.holds Try.pinned (OpenSpec.ofChange statsTimesWrong)

/-- 'logbooklaw38.RateBars': WHATEVER THE INPUT: true; the input reads as it did. -/
def rateBarsSpec : ChangeSpec := { name := "rateBars", fn := fun _ => fun
  | [d1, d2, d3, d4] => { results := [.lit (.bool true)], args := [d1, d2, d3, d4] }
  | _ => none }
def rateBarsRow : OpenClaim := { program := "ytldiginkmmlojaa", sum := "6d136c556eb78c23e0cd3edff973fe30d94acc7729b11a2bf588626c500cb5c5", func := "logbook/logbooklaw38.RateBars", spec := "rateBars", unfollowed := true, recurses := true, apart := false }
def RateBarsSaid : Prop := rateBarsRow.holds Try.pinned (OpenSpec.ofChange rateBarsSpec)

/-- ITS FALSE NEIGHBOUR: 'it returns false'. Refute it at one input. -/
def rateBarsWrong : ChangeSpec := { name := "rateBars", fn := fun _ => fun
  | [d1, d2, d3, d4] => { results := [.lit (.bool false)], args := [d1, d2, d3, d4] }
  | _ => none }
def RateBarsWrongFalsely : Prop := rateBarsRow.holds Try.pinned (OpenSpec.ofChange rateBarsWrong)

/-- 'logbooklaw38.RateBursts': WHATEVER THE INPUT: true; the input reads as it did. -/
def rateBurstsSpec : ChangeSpec := { name := "rateBursts", fn := fun _ => fun
  | [d1, d2, d3] => { results := [.lit (.bool true)], args := [d1, d2, d3] }
  | _ => none }
def rateBurstsRow : OpenClaim := { program := "ytldiginkmmlojaa", sum := "6d136c556eb78c23e0cd3edff973fe30d94acc7729b11a2bf588626c500cb5c5", func := "logbook/logbooklaw38.RateBursts", spec := "rateBursts", unfollowed := true, recurses := true, apart := false }
def RateBurstsSaid : Prop := rateBurstsRow.holds Try.pinned (OpenSpec.ofChange rateBurstsSpec)

/-- ITS FALSE NEIGHBOUR: 'it returns false'. Refute it at one input. -/
def rateBurstsWrong : ChangeSpec := { name := "rateBursts", fn := fun _ => fun
  | [d1, d2, d3] => { results := [.lit (.bool false)], args := [d1, d2, d3] }
  | _ => none }
def RateBurstsWrongFalsely : Prop := rateBurstsRow.holds Try.pinned (OpenSpec.ofChange rateBurstsWrong)

/- THE SECOND FORM. 'bulk': how many values and letters a reading holds, each counted each time it is reached (what is shared counts as often as it is met; a slice's spare places count too). A statement '..UptoSaid' is the law's where the arguments, and the package variables that the reading takes, are together of bulk at most 1048576: NARROWER than '..Said'. Prove '..Said' where nothing that the law and all that it calls make is longer than what came in: it says more and counts as full. Else prove '..UptoSaid'. A law counts once. -/
mutual
def uptoBulk {H : Type} : DataW H → Nat
  | .lit (.string bytes) => bytes.length + 1
  | .lit _ => 1
  | .nil => 1
  | .ptr d => uptoBulk d + 1
  | .slice elems spare => uptoBulkAll elems + uptoBulkAll spare + 1
  | .agg parts => uptoBulkAll parts + 1
  | .iface _ d => uptoBulk d + 1
  | .map entries => uptoBulkEntries entries + 1
  | .held _ => 1
def uptoBulkAll {H : Type} : List (DataW H) → Nat
  | [] => 0
  | d :: r => uptoBulk d + uptoBulkAll r
def uptoBulkEntries {H : Type} : List (Lit × DataW H) → Nat
  | [] => 0
  | x :: r => uptoBulkEntry x + uptoBulkEntries r
def uptoBulkEntry {H : Type} : Lit × DataW H → Nat
  | (.string bytes, d) => bytes.length + uptoBulk d + 1
  | (_, d) => uptoBulk d + 1
 end
def uptoSmall : (H : Type) → List (DataW H) → Bool := fun _ ds => decide (uptoBulkAll ds ≤ 1048576)
def OpenSpec.upto (s : _root_.Go.ChangeSpec) : _root_.Go.OpenSpec := { _root_.Go.OpenSpec.ofChange s with cond := some uptoSmall }

/-- 'logbooklaw41.StatsBoots', WHERE WHAT IT READS IS OF BULK AT MOST 1048576: true; the input reads as it did. -/
def statsBootsUptoRow : OpenClaim := { program := "ytldiginkmmlojaa", sum := "6d136c556eb78c23e0cd3edff973fe30d94acc7729b11a2bf588626c500cb5c5", func := "logbook/logbooklaw41.StatsBoots", spec := "statsBoots", unfollowed := true, recurses := true, apart := false, narrowed := true }
def StatsBootsUptoSaid : Prop := statsBootsUptoRow.holds Try.pinned (OpenSpec.upto statsBootsSpec)

/-- 'logbooklaw21.StampPlays', WHERE WHAT IT READS IS OF BULK AT MOST 1048576: true; the input reads as it did. -/
def stampPlaysUptoRow : OpenClaim := { program := "ytldiginkmmlojaa", sum := "6d136c556eb78c23e0cd3edff973fe30d94acc7729b11a2bf588626c500cb5c5", func := "logbook/logbooklaw21.StampPlays", spec := "stampPlays", apart := false, narrowed := true }
def StampPlaysUptoSaid : Prop := stampPlaysUptoRow.holds Try.pinned (OpenSpec.upto stampPlaysSpec)

/-- 'logbooklaw21.StampRises', WHERE WHAT IT READS IS OF BULK AT MOST 1048576: true; the input reads as it did. -/
def stampRisesUptoRow : OpenClaim := { program := "ytldiginkmmlojaa", sum := "6d136c556eb78c23e0cd3edff973fe30d94acc7729b11a2bf588626c500cb5c5", func := "logbook/logbooklaw21.StampRises", spec := "stampRises", apart := false, narrowed := true }
def StampRisesUptoSaid : Prop := stampRisesUptoRow.holds Try.pinned (OpenSpec.upto stampRisesSpec)

/-- 'logbooklaw37.StreamSays', WHERE WHAT IT READS IS OF BULK AT MOST 1048576: true; the input reads as it did. -/
def streamSaysUptoRow : OpenClaim := { program := "ytldiginkmmlojaa", sum := "6d136c556eb78c23e0cd3edff973fe30d94acc7729b11a2bf588626c500cb5c5", func := "logbook/logbooklaw37.StreamSays", spec := "streamSays", apart := false, narrowed := true }
def StreamSaysUptoSaid : Prop := streamSaysUptoRow.holds Try.pinned (OpenSpec.upto streamSaysSpec)

/-- 'logbooklaw25.MergeMerges', WHERE WHAT IT READS IS OF BULK AT MOST 1048576: true; the input reads as it did. -/
def mergeMergesUptoRow : OpenClaim := { program := "ytldiginkmmlojaa", sum := "6d136c556eb78c23e0cd3edff973fe30d94acc7729b11a2bf588626c500cb5c5", func := "logbook/logbooklaw25.MergeMerges", spec := "mergeMerges", unfollowed := true, recurses := true, apart := false, narrowed := true }
def MergeMergesUptoSaid : Prop := mergeMergesUptoRow.holds Try.pinned (OpenSpec.upto mergeMergesSpec)

/-- 'logbooklaw37.StreamCuts', WHERE WHAT IT READS IS OF BULK AT MOST 1048576: true; the input reads as it did. -/
def streamCutsUptoRow : OpenClaim := { program := "ytldiginkmmlojaa", sum := "6d136c556eb78c23e0cd3edff973fe30d94acc7729b11a2bf588626c500cb5c5", func := "logbook/logbooklaw37.StreamCuts", spec := "streamCuts", apart := false, narrowed := true }
def StreamCutsUptoSaid : Prop := streamCutsUptoRow.holds Try.pinned (OpenSpec.upto streamCutsSpec)

/-- 'logbooklaw25.MergeFilters', WHERE WHAT IT READS IS OF BULK AT MOST 1048576: true; the input reads as it did. -/
def mergeFiltersUptoRow : OpenClaim := { program := "ytldiginkmmlojaa", sum := "6d136c556eb78c23e0cd3edff973fe30d94acc7729b11a2bf588626c500cb5c5", func := "logbook/logbooklaw25.MergeFilters", spec := "mergeFilters", unfollowed := true, recurses := true, apart := false, narrowed := true }
def MergeFiltersUptoSaid : Prop := mergeFiltersUptoRow.holds Try.pinned (OpenSpec.upto mergeFiltersSpec)

/-- 'logbooklaw41.StatsTimes', WHERE WHAT IT READS IS OF BULK AT MOST 1048576: true; the input reads as it did. -/
def statsTimesUptoRow : OpenClaim := { program := "ytldiginkmmlojaa", sum := "6d136c556eb78c23e0cd3edff973fe30d94acc7729b11a2bf588626c500cb5c5", func := "logbook/logbooklaw41.StatsTimes", spec := "statsTimes", unfollowed := true, recurses := true, apart := false, narrowed := true }
def StatsTimesUptoSaid : Prop := statsTimesUptoRow.holds Try.pinned (OpenSpec.upto statsTimesSpec)

/-- 'logbooklaw38.RateBars', WHERE WHAT IT READS IS OF BULK AT MOST 1048576: true; the input reads as it did. -/
def rateBarsUptoRow : OpenClaim := { program := "ytldiginkmmlojaa", sum := "6d136c556eb78c23e0cd3edff973fe30d94acc7729b11a2bf588626c500cb5c5", func := "logbook/logbooklaw38.RateBars", spec := "rateBars", unfollowed := true, recurses := true, apart := false, narrowed := true }
def RateBarsUptoSaid : Prop := rateBarsUptoRow.holds Try.pinned (OpenSpec.upto rateBarsSpec)

/-- 'logbooklaw38.RateBursts', WHERE WHAT IT READS IS OF BULK AT MOST 1048576: true; the input reads as it did. -/
def rateBurstsUptoRow : OpenClaim := { program := "ytldiginkmmlojaa", sum := "6d136c556eb78c23e0cd3edff973fe30d94acc7729b11a2bf588626c500cb5c5", func := "logbook/logbooklaw38.RateBursts", spec := "rateBursts", unfollowed := true, recurses := true, apart := false, narrowed := true }
def RateBurstsUptoSaid : Prop := rateBurstsUptoRow.holds Try.pinned (OpenSpec.upto rateBurstsSpec)

end Rows
end Go.Proofs.Ytldiginkmmlojaa
