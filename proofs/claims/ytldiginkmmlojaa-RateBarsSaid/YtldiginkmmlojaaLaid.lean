/-
  DERIVED: THE SHELF's CONTRACTS AT THIS DUMP, IN PLAIN WORDS (tools/lay-plain.mjs out of 'YtldiginkmmlojaaShelfTry.lean', which tools/lay-shelf.mjs wrote): THE SAME DECLARATIONS UNDER THE SAME NAMES: 'import', 'namespace', 'open', 'def', 'theorem' AND NOTHING ELSE: no command of the shelf's: FOR A HAND-IN. Each laying: the table of numbers ('.._ren') and one theorem, a field a fact of the dump's own or the kernel's comparison; each contract: ONE APPLICATION.
-/
import Derived.Shelf.SlIter.Nil
import Derived.Shelf.SortM.Plain
import Derived.Shelf.SortM.SortNone
import Derived.Shelf.SlMaps.Clone
import Derived.Ground.GgzProg
import Derived.Ground.SlgmProg
import Derived.Ground.SlmcProg
import Derived.Test.YtldiginkmmlojaaProg
namespace Go.Proofs
open Go.Shelf
def Try.keys86_ren : Go.Shelf.Ren := ⟨fun | 7 => 86 | 10 => 94 | n => n, fun | 23 => 139 | 26 => 9 | 3 => 146 | 28 => 154 | 0 => 0 | 27 => 153 | 33 => 161 | 4 => 4 | n => n, fun | n => n⟩
theorem Try.keys86 : Go.Proofs.SlLaysZ.n7 Try.prog Try.keys86_ren := {
  mixed := by kernel_rfl
  f7 := ⟨Try.f86.name, by decide, Try.func86.trans (congrArg some (by kernel_rfl))⟩
  f10 := ⟨Try.f94.name, by decide, Try.func94.trans (congrArg some (by kernel_rfl))⟩
  t0 := Try.underlying0
  a0 := Try.isAgg0
  z0 := Try.sizeOf0
  v0 := Try.zeroValue0
  t4 := Try.underlying4
  a4 := Try.isAgg4
  z4 := Try.sizeOf4
  v4 := Try.zeroValue4
  t23 := Try.underlying139
  a23 := Try.isAgg139
  z23 := Try.sizeOf139
  v23 := Try.zeroValue139
  t26 := Try.underlying9
  a26 := Try.isAgg9
  z26 := Try.sizeOf9
  v26 := Try.zeroValue9
  t27 := Try.underlying153
  a27 := Try.isAgg153
  z27 := Try.sizeOf153
  v27 := Try.zeroValue153
  t28 := Try.underlying154
  a28 := Try.isAgg154
  z28 := Try.sizeOf154
  v28 := Try.zeroValue154
  t33 := Try.underlying161
  a33 := Try.isAgg161
  z33 := Try.sizeOf161
  v33 := Try.zeroValue161 }
def Try.sorted85_ren : Go.Shelf.Ren := ⟨fun | 6 => 85 | 8 => 92 | 9 => 93 | 11 => 98 | 13 => 97 | 12 => 99 | 23 => 109 | 24 => 110 | 14 => 111 | 15 => 112 | 16 => 113 | 17 => 114 | 18 => 115 | 19 => 116 | 20 => 117 | 21 => 118 | 22 => 119 | 25 => 126 | 26 => 121 | 27 => 122 | 28 => 127 | 29 => 128 | 30 => 129 | 31 => 131 | n => n, fun | 26 => 9 | 28 => 154 | 24 => 41 | 0 => 0 | 3 => 3 | 37 => 165 | 48 => 177 | 50 => 37 | 4 => 4 | 40 => 170 | 39 => 169 | 45 => 120 | 5 => 5 | 9 => 9 | 51 => 185 | 55 => 188 | 57 => 192 | 58 => 193 | 33 => 161 | n => n, fun | n => n⟩
theorem Try.sorted85 : Go.Proofs.SlLaysZ.n6 Try.prog Try.sorted85_ren := {
  mixed := by kernel_rfl
  f6 := ⟨Try.f85.name, by decide, Try.func85.trans (congrArg some (by kernel_rfl))⟩
  f8 := ⟨Try.f92.name, by decide, Try.func92.trans (congrArg some (by kernel_rfl))⟩
  f11 := ⟨Try.f98.name, by decide, Try.func98.trans (congrArg some (by kernel_rfl))⟩
  t0 := Try.underlying0
  a0 := Try.isAgg0
  z0 := Try.sizeOf0
  v0 := Try.zeroValue0
  t24 := Try.underlying41
  a24 := Try.isAgg41
  z24 := Try.sizeOf41
  v24 := Try.zeroValue41
  t26 := Try.underlying9
  a26 := Try.isAgg9
  z26 := Try.sizeOf9
  v26 := Try.zeroValue9
  t28 := Try.underlying154
  a28 := Try.isAgg154
  z28 := Try.sizeOf154
  v28 := Try.zeroValue154
  i26 := by kernel_rfl }
def Try.sort93_ren : Go.Shelf.Ren := ⟨fun | 6 => 93 | 8 => 97 | 9 => 99 | 19 => 109 | 20 => 110 | 21 => 111 | 22 => 112 | 23 => 113 | 24 => 114 | 25 => 115 | 26 => 116 | 27 => 117 | 28 => 118 | 29 => 119 | 36 => 126 | 31 => 121 | 32 => 122 | 37 => 127 | 38 => 128 | 39 => 129 | 41 => 131 | n => n, fun | 27 => 41 | 29 => 9 | 3 => 3 | 32 => 165 | 26 => 41 | 0 => 0 | 44 => 177 | 46 => 37 | 4 => 4 | 36 => 170 | 35 => 169 | 41 => 120 | 5 => 5 | 9 => 9 | 53 => 185 | 57 => 188 | 63 => 192 | 64 => 193 | n => n, fun | n => n⟩
theorem Try.sort93 : Go.Proofs.SlLaysM.n6 Try.prog Try.sort93_ren := {
  mixed := by kernel_rfl
  f6 := ⟨Try.f93.name, by decide, Try.func93.trans (congrArg some (by kernel_rfl))⟩
  f8 := Try.func97.trans (congrArg some (by kernel_rfl))
  f9 := ⟨Try.f99.name, by decide, Try.func99.trans (congrArg some (by kernel_rfl))⟩
  f19 := Try.func109.trans (congrArg some (by kernel_rfl))
  f20 := Try.func110.trans (congrArg some (by kernel_rfl))
  f21 := ⟨Try.f111.name, by decide, Try.func111.trans (congrArg some (by kernel_rfl))⟩
  f22 := ⟨Try.f112.name, by decide, Try.func112.trans (congrArg some (by kernel_rfl))⟩
  f23 := ⟨Try.f113.name, by decide, Try.func113.trans (congrArg some (by kernel_rfl))⟩
  f24 := ⟨Try.f114.name, by decide, Try.func114.trans (congrArg some (by kernel_rfl))⟩
  f25 := ⟨Try.f115.name, by decide, Try.func115.trans (congrArg some (by kernel_rfl))⟩
  f26 := ⟨Try.f116.name, by decide, Try.func116.trans (congrArg some (by kernel_rfl))⟩
  f27 := ⟨Try.f117.name, by decide, Try.func117.trans (congrArg some (by kernel_rfl))⟩
  f28 := ⟨Try.f118.name, by decide, Try.func118.trans (congrArg some (by kernel_rfl))⟩
  f29 := ⟨Try.f119.name, by decide, Try.func119.trans (congrArg some (by kernel_rfl))⟩
  f31 := Try.func121.trans (congrArg some (by kernel_rfl))
  f32 := Try.func122.trans (congrArg some (by kernel_rfl))
  f36 := ⟨Try.f126.name, by decide, Try.func126.trans (congrArg some (by kernel_rfl))⟩
  f37 := ⟨Try.f127.name, by decide, Try.func127.trans (congrArg some (by kernel_rfl))⟩
  f38 := ⟨Try.f128.name, by decide, Try.func128.trans (congrArg some (by kernel_rfl))⟩
  f39 := ⟨Try.f129.name, by decide, Try.func129.trans (congrArg some (by kernel_rfl))⟩
  f41 := ⟨Try.f131.name, by decide, Try.func131.trans (congrArg some (by kernel_rfl))⟩
  t0 := Try.underlying0
  a0 := Try.isAgg0
  z0 := Try.sizeOf0
  v0 := Try.zeroValue0
  t3 := Try.underlying3
  a3 := Try.isAgg3
  z3 := Try.sizeOf3
  v3 := Try.zeroValue3
  t4 := Try.underlying4
  a4 := Try.isAgg4
  z4 := Try.sizeOf4
  v4 := Try.zeroValue4
  t5 := Try.underlying5
  a5 := Try.isAgg5
  z5 := Try.sizeOf5
  v5 := Try.zeroValue5
  t9 := Try.underlying9
  a9 := Try.isAgg9
  z9 := Try.sizeOf9
  v9 := Try.zeroValue9
  t26 := Try.underlying41
  a26 := Try.isAgg41
  z26 := Try.sizeOf41
  v26 := Try.zeroValue41
  t27 := Try.underlying41
  a27 := Try.isAgg41
  z27 := Try.sizeOf41
  v27 := Try.zeroValue41
  t29 := Try.underlying9
  a29 := Try.isAgg9
  z29 := Try.sizeOf9
  v29 := Try.zeroValue9
  t32 := Try.underlying165
  a32 := Try.isAgg165
  z32 := Try.sizeOf165
  v32 := Try.zeroValue165
  t35 := Try.underlying169
  a35 := Try.isAgg169
  z35 := Try.sizeOf169
  v35 := Try.zeroValue169
  t36 := Try.underlying170
  a36 := Try.isAgg170
  z36 := Try.sizeOf170
  v36 := Try.zeroValue170
  t41 := Try.underlying120
  a41 := Try.isAgg120
  z41 := Try.sizeOf120
  v41 := Try.zeroValue120
  t44 := Try.underlying177
  a44 := Try.isAgg177
  z44 := Try.sizeOf177
  v44 := Try.zeroValue177
  t46 := Try.underlying37
  a46 := Try.isAgg37
  z46 := Try.sizeOf37
  v46 := Try.zeroValue37
  t53 := Try.underlying185
  a53 := Try.isAgg185
  z53 := Try.sizeOf185
  v53 := Try.zeroValue185
  t57 := Try.underlying188
  a57 := Try.isAgg188
  z57 := Try.sizeOf188
  v57 := Try.zeroValue188
  t63 := Try.underlying192
  a63 := Try.isAgg192
  z63 := Try.sizeOf192
  v63 := Try.zeroValue192
  t64 := Try.underlying193
  a64 := Try.isAgg193
  z64 := Try.sizeOf193
  v64 := Try.zeroValue193 }
end Go.Proofs
