/-
  DERIVED: THE SHELF's CONTRACTS AT THIS DUMP, IN PLAIN WORDS (tools/lay-plain.mjs out of 'YtpnbjpkdbiiogaaShelfTry.lean', which tools/lay-shelf.mjs wrote): THE SAME DECLARATIONS UNDER THE SAME NAMES: 'import', 'namespace', 'open', 'def', 'theorem' AND NOTHING ELSE: no command of the shelf's: FOR A HAND-IN. Each laying: the table of numbers ('.._ren') and one theorem, a field a fact of the dump's own or the kernel's comparison; each contract: ONE APPLICATION.
-/
import Derived.Shelf.SlIter.Nil
import Derived.Shelf.SortM.Plain
import Derived.Shelf.SortM.SortNone
import Derived.Shelf.SlMaps.Clone
import Derived.Ground.GgzProg
import Derived.Ground.SlgmProg
import Derived.Ground.SlmcProg
import Derived.Test.YtpnbjpkdbiiogaaProg
namespace Go.Proofs
open Go.Shelf
def Try.clone97_ren : Go.Shelf.Ren := ⟨fun | 5 => 97 | 7 => 113 | n => n, fun | 23 => 85 | 25 => 9 | 3 => 3 | 4 => 4 | 20 => 20 | n => n, fun | n => n⟩
theorem Try.clone97 : Go.Proofs.SlLaysW.n5 Try.prog Try.clone97_ren := {
  mixed := by kernel_rfl
  f5 := ⟨Try.f97.name, by decide, Try.func97.trans (congrArg some (by kernel_rfl))⟩
  f7 := Try.func113.trans (congrArg some (by kernel_rfl))
  t4 := Try.underlying4
  a4 := Try.isAgg4
  z4 := Try.sizeOf4
  v4 := Try.zeroValue4
  t20 := Try.underlying20
  a20 := Try.isAgg20
  z20 := Try.sizeOf20
  v20 := Try.zeroValue20
  t23 := Try.underlying85
  a23 := Try.isAgg85
  z23 := Try.sizeOf85
  v23 := Try.zeroValue85 }
def Try.keys100_ren : Go.Shelf.Ren := ⟨fun | 7 => 100 | 10 => 116 | n => n, fun | 23 => 85 | 26 => 9 | 3 => 3 | 28 => 153 | 0 => 0 | 27 => 152 | 33 => 83 | 4 => 4 | n => n, fun | n => n⟩
theorem Try.keys100 : Go.Proofs.SlLaysZ.n7 Try.prog Try.keys100_ren := {
  mixed := by kernel_rfl
  f7 := ⟨Try.f100.name, by decide, Try.func100.trans (congrArg some (by kernel_rfl))⟩
  f10 := ⟨Try.f116.name, by decide, Try.func116.trans (congrArg some (by kernel_rfl))⟩
  t0 := Try.underlying0
  a0 := Try.isAgg0
  z0 := Try.sizeOf0
  v0 := Try.zeroValue0
  t4 := Try.underlying4
  a4 := Try.isAgg4
  z4 := Try.sizeOf4
  v4 := Try.zeroValue4
  t23 := Try.underlying85
  a23 := Try.isAgg85
  z23 := Try.sizeOf85
  v23 := Try.zeroValue85
  t26 := Try.underlying9
  a26 := Try.isAgg9
  z26 := Try.sizeOf9
  v26 := Try.zeroValue9
  t27 := Try.underlying152
  a27 := Try.isAgg152
  z27 := Try.sizeOf152
  v27 := Try.zeroValue152
  t28 := Try.underlying153
  a28 := Try.isAgg153
  z28 := Try.sizeOf153
  v28 := Try.zeroValue153
  t33 := Try.underlying83
  a33 := Try.isAgg83
  z33 := Try.sizeOf83
  v33 := Try.zeroValue83 }
def Try.sorted99_ren : Go.Shelf.Ren := ⟨fun | 6 => 99 | 8 => 114 | 9 => 115 | 11 => 122 | 13 => 124 | 12 => 123 | 23 => 137 | 24 => 138 | 14 => 128 | 15 => 129 | 16 => 130 | 17 => 131 | 18 => 132 | 19 => 133 | 20 => 134 | 21 => 135 | 22 => 136 | 25 => 141 | 26 => 142 | 27 => 143 | 28 => 144 | 29 => 145 | 30 => 146 | 31 => 156 | n => n, fun | 26 => 9 | 28 => 153 | 24 => 78 | 0 => 0 | 3 => 3 | 37 => 110 | 48 => 203 | 50 => 205 | 4 => 4 | 40 => 196 | 39 => 195 | 45 => 93 | 5 => 5 | 9 => 9 | 51 => 208 | 55 => 212 | 57 => 220 | 58 => 221 | 33 => 83 | n => n, fun | n => n⟩
theorem Try.sorted99 : Go.Proofs.SlLaysZ.n6 Try.prog Try.sorted99_ren := {
  mixed := by kernel_rfl
  f6 := ⟨Try.f99.name, by decide, Try.func99.trans (congrArg some (by kernel_rfl))⟩
  f8 := ⟨Try.f114.name, by decide, Try.func114.trans (congrArg some (by kernel_rfl))⟩
  f11 := ⟨Try.f122.name, by decide, Try.func122.trans (congrArg some (by kernel_rfl))⟩
  t0 := Try.underlying0
  a0 := Try.isAgg0
  z0 := Try.sizeOf0
  v0 := Try.zeroValue0
  t24 := Try.underlying78
  a24 := Try.isAgg78
  z24 := Try.sizeOf78
  v24 := Try.zeroValue78
  t26 := Try.underlying9
  a26 := Try.isAgg9
  z26 := Try.sizeOf9
  v26 := Try.zeroValue9
  t28 := Try.underlying153
  a28 := Try.isAgg153
  z28 := Try.sizeOf153
  v28 := Try.zeroValue153
  i26 := by kernel_rfl }
def Try.sort115_ren : Go.Shelf.Ren := ⟨fun | 6 => 115 | 8 => 124 | 9 => 123 | 19 => 137 | 20 => 138 | 21 => 128 | 22 => 129 | 23 => 130 | 24 => 131 | 25 => 132 | 26 => 133 | 27 => 134 | 28 => 135 | 29 => 136 | 36 => 141 | 31 => 142 | 32 => 143 | 37 => 144 | 38 => 145 | 39 => 146 | 41 => 156 | n => n, fun | 27 => 78 | 29 => 9 | 3 => 3 | 32 => 110 | 26 => 78 | 0 => 0 | 44 => 203 | 46 => 205 | 4 => 4 | 36 => 196 | 35 => 195 | 41 => 93 | 5 => 5 | 9 => 9 | 53 => 208 | 57 => 212 | 63 => 220 | 64 => 221 | n => n, fun | n => n⟩
theorem Try.sort115 : Go.Proofs.SlLaysM.n6 Try.prog Try.sort115_ren := {
  mixed := by kernel_rfl
  f6 := ⟨Try.f115.name, by decide, Try.func115.trans (congrArg some (by kernel_rfl))⟩
  f8 := Try.func124.trans (congrArg some (by kernel_rfl))
  f9 := ⟨Try.f123.name, by decide, Try.func123.trans (congrArg some (by kernel_rfl))⟩
  f19 := Try.func137.trans (congrArg some (by kernel_rfl))
  f20 := Try.func138.trans (congrArg some (by kernel_rfl))
  f21 := ⟨Try.f128.name, by decide, Try.func128.trans (congrArg some (by kernel_rfl))⟩
  f22 := ⟨Try.f129.name, by decide, Try.func129.trans (congrArg some (by kernel_rfl))⟩
  f23 := ⟨Try.f130.name, by decide, Try.func130.trans (congrArg some (by kernel_rfl))⟩
  f24 := ⟨Try.f131.name, by decide, Try.func131.trans (congrArg some (by kernel_rfl))⟩
  f25 := ⟨Try.f132.name, by decide, Try.func132.trans (congrArg some (by kernel_rfl))⟩
  f26 := ⟨Try.f133.name, by decide, Try.func133.trans (congrArg some (by kernel_rfl))⟩
  f27 := ⟨Try.f134.name, by decide, Try.func134.trans (congrArg some (by kernel_rfl))⟩
  f28 := ⟨Try.f135.name, by decide, Try.func135.trans (congrArg some (by kernel_rfl))⟩
  f29 := ⟨Try.f136.name, by decide, Try.func136.trans (congrArg some (by kernel_rfl))⟩
  f31 := Try.func142.trans (congrArg some (by kernel_rfl))
  f32 := Try.func143.trans (congrArg some (by kernel_rfl))
  f36 := ⟨Try.f141.name, by decide, Try.func141.trans (congrArg some (by kernel_rfl))⟩
  f37 := ⟨Try.f144.name, by decide, Try.func144.trans (congrArg some (by kernel_rfl))⟩
  f38 := ⟨Try.f145.name, by decide, Try.func145.trans (congrArg some (by kernel_rfl))⟩
  f39 := ⟨Try.f146.name, by decide, Try.func146.trans (congrArg some (by kernel_rfl))⟩
  f41 := ⟨Try.f156.name, by decide, Try.func156.trans (congrArg some (by kernel_rfl))⟩
  t0 := Try.underlying0
  a0 := Try.isAgg0
  z0 := Try.sizeOf0
  v0 := Try.zeroValue0
  t3 := Try.underlying3
  a3 := Try.isAgg3
  z3 := Try.sizeOf3
  v3 := Try.zeroValue3
  t4 := Try.underlying4
  a4 := Try.isAgg4
  z4 := Try.sizeOf4
  v4 := Try.zeroValue4
  t5 := Try.underlying5
  a5 := Try.isAgg5
  z5 := Try.sizeOf5
  v5 := Try.zeroValue5
  t9 := Try.underlying9
  a9 := Try.isAgg9
  z9 := Try.sizeOf9
  v9 := Try.zeroValue9
  t26 := Try.underlying78
  a26 := Try.isAgg78
  z26 := Try.sizeOf78
  v26 := Try.zeroValue78
  t27 := Try.underlying78
  a27 := Try.isAgg78
  z27 := Try.sizeOf78
  v27 := Try.zeroValue78
  t29 := Try.underlying9
  a29 := Try.isAgg9
  z29 := Try.sizeOf9
  v29 := Try.zeroValue9
  t32 := Try.underlying110
  a32 := Try.isAgg110
  z32 := Try.sizeOf110
  v32 := Try.zeroValue110
  t35 := Try.underlying195
  a35 := Try.isAgg195
  z35 := Try.sizeOf195
  v35 := Try.zeroValue195
  t36 := Try.underlying196
  a36 := Try.isAgg196
  z36 := Try.sizeOf196
  v36 := Try.zeroValue196
  t41 := Try.underlying93
  a41 := Try.isAgg93
  z41 := Try.sizeOf93
  v41 := Try.zeroValue93
  t44 := Try.underlying203
  a44 := Try.isAgg203
  z44 := Try.sizeOf203
  v44 := Try.zeroValue203
  t46 := Try.underlying205
  a46 := Try.isAgg205
  z46 := Try.sizeOf205
  v46 := Try.zeroValue205
  t53 := Try.underlying208
  a53 := Try.isAgg208
  z53 := Try.sizeOf208
  v53 := Try.zeroValue208
  t57 := Try.underlying212
  a57 := Try.isAgg212
  z57 := Try.sizeOf212
  v57 := Try.zeroValue212
  t63 := Try.underlying220
  a63 := Try.isAgg220
  z63 := Try.sizeOf220
  v63 := Try.zeroValue220
  t64 := Try.underlying221
  a64 := Try.isAgg221
  z64 := Try.sizeOf221
  v64 := Try.zeroValue221 }
end Go.Proofs
