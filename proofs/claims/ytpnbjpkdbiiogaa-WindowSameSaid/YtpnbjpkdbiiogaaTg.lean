/-
  DERIVED: THE SHELF's CONTRACTS AT THIS DUMP, IN PLAIN WORDS (tools/lay-plain.mjs out of 'YtpnbjpkdbiiogaaShelfTry.lean', which tools/lay-shelf.mjs wrote): THE SAME DECLARATIONS UNDER THE SAME NAMES: 'import', 'namespace', 'open', 'def', 'theorem' AND NOTHING ELSE: no command of the shelf's: FOR A HAND-IN. Each laying: the table of numbers ('.._ren') and one theorem, a field a fact of the dump's own or the kernel's comparison; each contract: ONE APPLICATION.
-/
import Derived.Shelf.SlIter.Nil
import Derived.Shelf.SlIterI.Nil
import Derived.Shelf.SlIterI.Sorted
import Derived.Shelf.SortM.Plain
import Derived.Shelf.SortM.SortNone
import Derived.Shelf.SlMaps.Clone
import Derived.Ground.GgzProg
import Derived.Ground.SlgmProg
import Derived.Ground.SlmcProg
import Derived.Test.YtpnbjpkdbiiogaaProg
import Derived.Test.YtpnbjpkdbiiogaaTf
import Derived.Test.YtpnbjpkdbiiogaaTc
namespace Go.Proofs
open Go.Shelf
def Try.clone97_ren : Go.Shelf.Ren := ⟨fun | 5 => 97 | 7 => 113 | n => n, fun | 23 => 85 | 25 => 9 | 3 => 3 | 4 => 4 | 20 => 20 | n => n, fun | n => n⟩
theorem Try.clone97 : Go.Proofs.SlLaysW.n5 Try.prog Try.clone97_ren := {
  mixed := by kernel_rfl
  f5 := ⟨Try.f97.name, by decide, Try.func97.trans (congrArg some (by kernel_rfl))⟩
  f7 := Try.func113.trans (congrArg some (by kernel_rfl))
  t4 := Try.underlying4
  a4 := Try.isAgg4
  z4 := Try.sizeOf4
  v4 := Try.zeroValue4
  t20 := Try.underlying20
  a20 := Try.isAgg20
  z20 := Try.sizeOf20
  v20 := Try.zeroValue20
  t23 := Try.underlying85
  a23 := Try.isAgg85
  z23 := Try.sizeOf85
  v23 := Try.zeroValue85 }
def Try.keys100_ren : Go.Shelf.Ren := ⟨fun | 7 => 100 | 10 => 116 | n => n, fun | 23 => 85 | 26 => 9 | 3 => 3 | 28 => 153 | 0 => 0 | 27 => 152 | 33 => 83 | 4 => 4 | n => n, fun | n => n⟩
theorem Try.keys100 : Go.Proofs.SlLaysZ.n7 Try.prog Try.keys100_ren := {
  mixed := by kernel_rfl
  f7 := ⟨Try.f100.name, by decide, Try.func100.trans (congrArg some (by kernel_rfl))⟩
  f10 := ⟨Try.f116.name, by decide, Try.func116.trans (congrArg some (by kernel_rfl))⟩
  t0 := Try.underlying0
  a0 := Try.isAgg0
  z0 := Try.sizeOf0
  v0 := Try.zeroValue0
  t4 := Try.underlying4
  a4 := Try.isAgg4
  z4 := Try.sizeOf4
  v4 := Try.zeroValue4
  t23 := Try.underlying85
  a23 := Try.isAgg85
  z23 := Try.sizeOf85
  v23 := Try.zeroValue85
  t26 := Try.underlying9
  a26 := Try.isAgg9
  z26 := Try.sizeOf9
  v26 := Try.zeroValue9
  t27 := Try.underlying152
  a27 := Try.isAgg152
  z27 := Try.sizeOf152
  v27 := Try.zeroValue152
  t28 := Try.underlying153
  a28 := Try.isAgg153
  z28 := Try.sizeOf153
  v28 := Try.zeroValue153
  t33 := Try.underlying83
  a33 := Try.isAgg83
  z33 := Try.sizeOf83
  v33 := Try.zeroValue83 }
def Try.keys119_ren : Go.Shelf.Ren := ⟨fun | 7 => 119 | 10 => 127 | n => n, fun | 23 => 159 | 26 => 3 | 3 => 41 | 28 => 185 | 0 => 0 | 27 => 184 | 33 => 193 | 4 => 4 | n => n, fun | n => n⟩
theorem Try.keys119 : Go.Proofs.SlLaysZI.n7 Try.prog Try.keys119_ren := {
  mixed := by kernel_rfl
  f7 := ⟨Try.f119.name, by decide, Try.func119.trans (congrArg some (by kernel_rfl))⟩
  f10 := ⟨Try.f127.name, by decide, Try.func127.trans (congrArg some (by kernel_rfl))⟩
  t0 := Try.underlying0
  a0 := Try.isAgg0
  z0 := Try.sizeOf0
  v0 := Try.zeroValue0
  t4 := Try.underlying4
  a4 := Try.isAgg4
  z4 := Try.sizeOf4
  v4 := Try.zeroValue4
  t23 := Try.underlying159
  a23 := Try.isAgg159
  z23 := Try.sizeOf159
  v23 := Try.zeroValue159
  t26 := Try.underlying3
  a26 := Try.isAgg3
  z26 := Try.sizeOf3
  v26 := Try.zeroValue3
  t27 := Try.underlying184
  a27 := Try.isAgg184
  z27 := Try.sizeOf184
  v27 := Try.zeroValue184
  t28 := Try.underlying185
  a28 := Try.isAgg185
  z28 := Try.sizeOf185
  v28 := Try.zeroValue185
  t33 := Try.underlying193
  a33 := Try.isAgg193
  z33 := Try.sizeOf193
  v33 := Try.zeroValue193 }
def Try.sorted118_ren : Go.Shelf.Ren := ⟨fun | 6 => 118 | 8 => 125 | 9 => 126 | 11 => 139 | 13 => 124 | 12 => 140 | 23 => 137 | 24 => 138 | 14 => 147 | 15 => 148 | 16 => 149 | 17 => 150 | 18 => 151 | 19 => 152 | 20 => 153 | 21 => 154 | 22 => 155 | 25 => 157 | 26 => 142 | 27 => 143 | 28 => 158 | 29 => 159 | 30 => 160 | 31 => 161 | n => n, fun | 26 => 3 | 28 => 185 | 24 => 123 | 0 => 0 | 3 => 3 | 37 => 110 | 48 => 203 | 50 => 205 | 4 => 4 | 40 => 196 | 39 => 195 | 45 => 93 | 5 => 5 | 9 => 9 | 51 => 208 | 55 => 212 | 57 => 220 | 58 => 221 | 33 => 193 | n => n, fun | n => n⟩
theorem Try.sorted118 : Go.Proofs.SlLaysZI.n6 Try.prog Try.sorted118_ren := {
  mixed := by kernel_rfl
  f6 := ⟨Try.f118.name, by decide, Try.func118.trans (congrArg some (by kernel_rfl))⟩
  f8 := ⟨Try.f125.name, by decide, Try.func125.trans (congrArg some (by kernel_rfl))⟩
  f11 := ⟨Try.f139.name, by decide, Try.func139.trans (congrArg some (by kernel_rfl))⟩
  t0 := Try.underlying0
  a0 := Try.isAgg0
  z0 := Try.sizeOf0
  v0 := Try.zeroValue0
  t24 := Try.underlying123
  a24 := Try.isAgg123
  z24 := Try.sizeOf123
  v24 := Try.zeroValue123
  t26 := Try.underlying3
  a26 := Try.isAgg3
  z26 := Try.sizeOf3
  v26 := Try.zeroValue3
  t28 := Try.underlying185
  a28 := Try.isAgg185
  z28 := Try.sizeOf185
  v28 := Try.zeroValue185
  i26 := by kernel_rfl }
def Try.sort126_ren : Go.Shelf.Ren := ⟨fun | 5 => 126 | 8 => 124 | 7 => 140 | 19 => 137 | 20 => 138 | 10 => 147 | 11 => 148 | 12 => 149 | 13 => 150 | 14 => 151 | 15 => 152 | 16 => 153 | 17 => 154 | 18 => 155 | 30 => 157 | 31 => 142 | 32 => 143 | 33 => 158 | 34 => 159 | 35 => 160 | 40 => 161 | n => n, fun | 23 => 123 | 25 => 3 | 3 => 3 | 32 => 110 | 22 => 123 | 0 => 0 | 44 => 203 | 46 => 205 | 4 => 4 | 36 => 196 | 35 => 195 | 41 => 93 | 5 => 5 | 9 => 9 | 53 => 208 | 57 => 212 | 63 => 220 | 64 => 221 | n => n, fun | n => n⟩
theorem Try.sort126 : Go.Proofs.SlLaysM.n5 Try.prog Try.sort126_ren := {
  mixed := by kernel_rfl
  f5 := ⟨Try.f126.name, by decide, Try.func126.trans (congrArg some (by kernel_rfl))⟩
  f7 := ⟨Try.f140.name, by decide, Try.func140.trans (congrArg some (by kernel_rfl))⟩
  f8 := Try.func124.trans (congrArg some (by kernel_rfl))
  f10 := ⟨Try.f147.name, by decide, Try.func147.trans (congrArg some (by kernel_rfl))⟩
  f11 := ⟨Try.f148.name, by decide, Try.func148.trans (congrArg some (by kernel_rfl))⟩
  f12 := ⟨Try.f149.name, by decide, Try.func149.trans (congrArg some (by kernel_rfl))⟩
  f13 := ⟨Try.f150.name, by decide, Try.func150.trans (congrArg some (by kernel_rfl))⟩
  f14 := ⟨Try.f151.name, by decide, Try.func151.trans (congrArg some (by kernel_rfl))⟩
  f15 := ⟨Try.f152.name, by decide, Try.func152.trans (congrArg some (by kernel_rfl))⟩
  f16 := ⟨Try.f153.name, by decide, Try.func153.trans (congrArg some (by kernel_rfl))⟩
  f17 := ⟨Try.f154.name, by decide, Try.func154.trans (congrArg some (by kernel_rfl))⟩
  f18 := ⟨Try.f155.name, by decide, Try.func155.trans (congrArg some (by kernel_rfl))⟩
  f19 := Try.func137.trans (congrArg some (by kernel_rfl))
  f20 := Try.func138.trans (congrArg some (by kernel_rfl))
  f30 := ⟨Try.f157.name, by decide, Try.func157.trans (congrArg some (by kernel_rfl))⟩
  f31 := Try.func142.trans (congrArg some (by kernel_rfl))
  f32 := Try.func143.trans (congrArg some (by kernel_rfl))
  f33 := ⟨Try.f158.name, by decide, Try.func158.trans (congrArg some (by kernel_rfl))⟩
  f34 := ⟨Try.f159.name, by decide, Try.func159.trans (congrArg some (by kernel_rfl))⟩
  f35 := ⟨Try.f160.name, by decide, Try.func160.trans (congrArg some (by kernel_rfl))⟩
  f40 := ⟨Try.f161.name, by decide, Try.func161.trans (congrArg some (by kernel_rfl))⟩
  t0 := Try.underlying0
  a0 := Try.isAgg0
  z0 := Try.sizeOf0
  v0 := Try.zeroValue0
  t3 := Try.underlying3
  a3 := Try.isAgg3
  z3 := Try.sizeOf3
  v3 := Try.zeroValue3
  t4 := Try.underlying4
  a4 := Try.isAgg4
  z4 := Try.sizeOf4
  v4 := Try.zeroValue4
  t5 := Try.underlying5
  a5 := Try.isAgg5
  z5 := Try.sizeOf5
  v5 := Try.zeroValue5
  t9 := Try.underlying9
  a9 := Try.isAgg9
  z9 := Try.sizeOf9
  v9 := Try.zeroValue9
  t22 := Try.underlying123
  a22 := Try.isAgg123
  z22 := Try.sizeOf123
  v22 := Try.zeroValue123
  t23 := Try.underlying123
  a23 := Try.isAgg123
  z23 := Try.sizeOf123
  v23 := Try.zeroValue123
  t25 := Try.underlying3
  a25 := Try.isAgg3
  z25 := Try.sizeOf3
  v25 := Try.zeroValue3
  t32 := Try.underlying110
  a32 := Try.isAgg110
  z32 := Try.sizeOf110
  v32 := Try.zeroValue110
  t35 := Try.underlying195
  a35 := Try.isAgg195
  z35 := Try.sizeOf195
  v35 := Try.zeroValue195
  t36 := Try.underlying196
  a36 := Try.isAgg196
  z36 := Try.sizeOf196
  v36 := Try.zeroValue196
  t41 := Try.underlying93
  a41 := Try.isAgg93
  z41 := Try.sizeOf93
  v41 := Try.zeroValue93
  t44 := Try.underlying203
  a44 := Try.isAgg203
  z44 := Try.sizeOf203
  v44 := Try.zeroValue203
  t46 := Try.underlying205
  a46 := Try.isAgg205
  z46 := Try.sizeOf205
  v46 := Try.zeroValue205
  t53 := Try.underlying208
  a53 := Try.isAgg208
  z53 := Try.sizeOf208
  v53 := Try.zeroValue208
  t57 := Try.underlying212
  a57 := Try.isAgg212
  z57 := Try.sizeOf212
  v57 := Try.zeroValue212
  t63 := Try.underlying220
  a63 := Try.isAgg220
  z63 := Try.sizeOf220
  v63 := Try.zeroValue220
  t64 := Try.underlying221
  a64 := Try.isAgg221
  z64 := Try.sizeOf221
  v64 := Try.zeroValue221 }
def Try.sorted99_ren : Go.Shelf.Ren := ⟨fun | 6 => 99 | 8 => 114 | 9 => 115 | 11 => 122 | 13 => 124 | 12 => 123 | 23 => 137 | 24 => 138 | 14 => 128 | 15 => 129 | 16 => 130 | 17 => 131 | 18 => 132 | 19 => 133 | 20 => 134 | 21 => 135 | 22 => 136 | 25 => 141 | 26 => 142 | 27 => 143 | 28 => 144 | 29 => 145 | 30 => 146 | 31 => 156 | n => n, fun | 26 => 9 | 28 => 153 | 24 => 78 | 0 => 0 | 3 => 3 | 37 => 110 | 48 => 203 | 50 => 205 | 4 => 4 | 40 => 196 | 39 => 195 | 45 => 93 | 5 => 5 | 9 => 9 | 51 => 208 | 55 => 212 | 57 => 220 | 58 => 221 | 33 => 83 | n => n, fun | n => n⟩
theorem Try.sorted99 : Go.Proofs.SlLaysZ.n6 Try.prog Try.sorted99_ren := {
  mixed := by kernel_rfl
  f6 := ⟨Try.f99.name, by decide, Try.func99.trans (congrArg some (by kernel_rfl))⟩
  f8 := ⟨Try.f114.name, by decide, Try.func114.trans (congrArg some (by kernel_rfl))⟩
  f11 := ⟨Try.f122.name, by decide, Try.func122.trans (congrArg some (by kernel_rfl))⟩
  t0 := Try.underlying0
  a0 := Try.isAgg0
  z0 := Try.sizeOf0
  v0 := Try.zeroValue0
  t24 := Try.underlying78
  a24 := Try.isAgg78
  z24 := Try.sizeOf78
  v24 := Try.zeroValue78
  t26 := Try.underlying9
  a26 := Try.isAgg9
  z26 := Try.sizeOf9
  v26 := Try.zeroValue9
  t28 := Try.underlying153
  a28 := Try.isAgg153
  z28 := Try.sizeOf153
  v28 := Try.zeroValue153
  i26 := by kernel_rfl }
def Try.sort115_ren : Go.Shelf.Ren := ⟨fun | 6 => 115 | 8 => 124 | 9 => 123 | 19 => 137 | 20 => 138 | 21 => 128 | 22 => 129 | 23 => 130 | 24 => 131 | 25 => 132 | 26 => 133 | 27 => 134 | 28 => 135 | 29 => 136 | 36 => 141 | 31 => 142 | 32 => 143 | 37 => 144 | 38 => 145 | 39 => 146 | 41 => 156 | n => n, fun | 27 => 78 | 29 => 9 | 3 => 3 | 32 => 110 | 26 => 78 | 0 => 0 | 44 => 203 | 46 => 205 | 4 => 4 | 36 => 196 | 35 => 195 | 41 => 93 | 5 => 5 | 9 => 9 | 53 => 208 | 57 => 212 | 63 => 220 | 64 => 221 | n => n, fun | n => n⟩
theorem Try.sort115 : Go.Proofs.SlLaysM.n6 Try.prog Try.sort115_ren := {
  mixed := by kernel_rfl
  f6 := ⟨Try.f115.name, by decide, Try.func115.trans (congrArg some (by kernel_rfl))⟩
  f8 := Try.func124.trans (congrArg some (by kernel_rfl))
  f9 := ⟨Try.f123.name, by decide, Try.func123.trans (congrArg some (by kernel_rfl))⟩
  f19 := Try.func137.trans (congrArg some (by kernel_rfl))
  f20 := Try.func138.trans (congrArg some (by kernel_rfl))
  f21 := ⟨Try.f128.name, by decide, Try.func128.trans (congrArg some (by kernel_rfl))⟩
  f22 := ⟨Try.f129.name, by decide, Try.func129.trans (congrArg some (by kernel_rfl))⟩
  f23 := ⟨Try.f130.name, by decide, Try.func130.trans (congrArg some (by kernel_rfl))⟩
  f24 := ⟨Try.f131.name, by decide, Try.func131.trans (congrArg some (by kernel_rfl))⟩
  f25 := ⟨Try.f132.name, by decide, Try.func132.trans (congrArg some (by kernel_rfl))⟩
  f26 := ⟨Try.f133.name, by decide, Try.func133.trans (congrArg some (by kernel_rfl))⟩
  f27 := ⟨Try.f134.name, by decide, Try.func134.trans (congrArg some (by kernel_rfl))⟩
  f28 := ⟨Try.f135.name, by decide, Try.func135.trans (congrArg some (by kernel_rfl))⟩
  f29 := ⟨Try.f136.name, by decide, Try.func136.trans (congrArg some (by kernel_rfl))⟩
  f31 := Try.func142.trans (congrArg some (by kernel_rfl))
  f32 := Try.func143.trans (congrArg some (by kernel_rfl))
  f36 := ⟨Try.f141.name, by decide, Try.func141.trans (congrArg some (by kernel_rfl))⟩
  f37 := ⟨Try.f144.name, by decide, Try.func144.trans (congrArg some (by kernel_rfl))⟩
  f38 := ⟨Try.f145.name, by decide, Try.func145.trans (congrArg some (by kernel_rfl))⟩
  f39 := ⟨Try.f146.name, by decide, Try.func146.trans (congrArg some (by kernel_rfl))⟩
  f41 := ⟨Try.f156.name, by decide, Try.func156.trans (congrArg some (by kernel_rfl))⟩
  t0 := Try.underlying0
  a0 := Try.isAgg0
  z0 := Try.sizeOf0
  v0 := Try.zeroValue0
  t3 := Try.underlying3
  a3 := Try.isAgg3
  z3 := Try.sizeOf3
  v3 := Try.zeroValue3
  t4 := Try.underlying4
  a4 := Try.isAgg4
  z4 := Try.sizeOf4
  v4 := Try.zeroValue4
  t5 := Try.underlying5
  a5 := Try.isAgg5
  z5 := Try.sizeOf5
  v5 := Try.zeroValue5
  t9 := Try.underlying9
  a9 := Try.isAgg9
  z9 := Try.sizeOf9
  v9 := Try.zeroValue9
  t26 := Try.underlying78
  a26 := Try.isAgg78
  z26 := Try.sizeOf78
  v26 := Try.zeroValue78
  t27 := Try.underlying78
  a27 := Try.isAgg78
  z27 := Try.sizeOf78
  v27 := Try.zeroValue78
  t29 := Try.underlying9
  a29 := Try.isAgg9
  z29 := Try.sizeOf9
  v29 := Try.zeroValue9
  t32 := Try.underlying110
  a32 := Try.isAgg110
  z32 := Try.sizeOf110
  v32 := Try.zeroValue110
  t35 := Try.underlying195
  a35 := Try.isAgg195
  z35 := Try.sizeOf195
  v35 := Try.zeroValue195
  t36 := Try.underlying196
  a36 := Try.isAgg196
  z36 := Try.sizeOf196
  v36 := Try.zeroValue196
  t41 := Try.underlying93
  a41 := Try.isAgg93
  z41 := Try.sizeOf93
  v41 := Try.zeroValue93
  t44 := Try.underlying203
  a44 := Try.isAgg203
  z44 := Try.sizeOf203
  v44 := Try.zeroValue203
  t46 := Try.underlying205
  a46 := Try.isAgg205
  z46 := Try.sizeOf205
  v46 := Try.zeroValue205
  t53 := Try.underlying208
  a53 := Try.isAgg208
  z53 := Try.sizeOf208
  v53 := Try.zeroValue208
  t57 := Try.underlying212
  a57 := Try.isAgg212
  z57 := Try.sizeOf212
  v57 := Try.zeroValue212
  t63 := Try.underlying220
  a63 := Try.isAgg220
  z63 := Try.sizeOf220
  v63 := Try.zeroValue220
  t64 := Try.underlying221
  a64 := Try.isAgg221
  z64 := Try.sizeOf221
  v64 := Try.zeroValue221 }
end Go.Proofs
/- Directories: names that rise; the code's Names and Sync. -/
namespace Go.Proofs.Ytpnbjpkdbiiogaa
set_option linter.unusedVariables false
open Go.RowKit Go.Maps Go.Sort Go.Shelf Go.Proofs.YtpnbjpkdbiiogaaW.PrintWords
attribute [local go_sem] mx2 mn2 mxTwo mnTwo

def nmL (l : List DN) : List (List UInt8) := l.map (fun p => p.1.data.toList)
/-- Names rise. -/
def Rising (l : List DN) : Prop := (nmL l).Pairwise (· < ·)
theorem gtS_lt {a b : ByteArray} (h : gtS a b = true) : b.data.toList < a.data.toList := by
  obtain ⟨h1, h2⟩ := gtS_true h
  rw [bytesLess_eq, ByteArray.toList_eq, ByteArray.toList_eq] at h1
  rw [beq_eq_false_iff_ne, ByteArray.toList_eq, ByteArray.toList_eq] at h2
  rcases List.le_iff_lt_or_eq.1 (List.not_lt.1 (of_decide_eq_false h1)) with h | h
  · exact h
  · exact absurd h.symm h2
theorem gtS_ge {a b : ByteArray} (h : gtS a b = false) (hne : a ≠ b) : a.data.toList < b.data.toList := by
  rcases gtS_false h with h1 | ⟨_, h2⟩
  · rw [bytesLess_eq, ByteArray.toList_eq, ByteArray.toList_eq] at h1
    exact of_decide_eq_true h1
  · rw [beq_iff_eq, ByteArray.toList_eq, ByteArray.toList_eq] at h2
    exact absurd (Go.WideShapes.bytes_inj h2) hne
theorem mem_insL (s : ByteArray) (a : Int) : ∀ (l : List DN) (p : DN), p ∈ insL s a l → p = (s, a) ∨ p ∈ l
  | [], p, h => by simp [insL] at h; exact .inl h
  | q :: t, p, h => by
    unfold insL at h
    split at h
    · rcases List.mem_cons.1 h with h | h
      · exact .inl h
      · exact .inr h
    · rcases List.mem_cons.1 h with h | h
      · exact .inr (by rw [h]; exact List.mem_cons_self ..)
      · rcases mem_insL s a t p h with h | h
        · exact .inl h
        · exact .inr (List.mem_cons_of_mem _ h)
theorem rising_cons {p : DN} {t : List DN} : Rising (p :: t) ↔ (∀ q ∈ t, p.1.data.toList < q.1.data.toList) ∧ Rising t := by
  unfold Rising nmL
  rw [List.map_cons, List.pairwise_cons]
  constructor
  · rintro ⟨h1, h2⟩
    exact ⟨fun q hq => h1 _ (List.mem_map.2 ⟨q, hq, rfl⟩), h2⟩
  · rintro ⟨h1, h2⟩
    refine ⟨fun x hx => ?_, h2⟩
    obtain ⟨q, hq, rfl⟩ := List.mem_map.1 hx
    exact h1 q hq
theorem rising_insL (s : ByteArray) (a : Int) : ∀ (l : List DN), Rising l → (∀ p ∈ l, p.1 ≠ s) → Rising (insL s a l)
  | [], _, _ => by simp [insL, Rising, nmL]
  | p :: t, h, hn => by
    obtain ⟨h1, h2⟩ := rising_cons.1 h
    unfold insL
    split
    · rename_i hg
      have hl := gtS_lt hg
      refine rising_cons.2 ⟨fun q hq => ?_, h⟩
      rcases List.mem_cons.1 hq with rfl | hq
      · exact hl
      · exact List.lt_trans hl (h1 q hq)
    · rename_i hg
      have hl := gtS_ge (by simpa using hg) (hn p (List.mem_cons_self ..))
      refine rising_cons.2 ⟨fun q hq => ?_, rising_insL s a t h2 (fun x hx => hn x (List.mem_cons_of_mem _ hx))⟩
      rcases mem_insL s a t q hq with rfl | hq
      · exact hl
      · exact h1 q hq
theorem rising_without (l : List DN) (s : ByteArray) (h : Rising l) : Rising (withoutL l s) := List.Pairwise.sublist (List.Sublist.map _ (List.filter_sublist ..)) h
theorem rising_with (l : List DN) (s : ByteArray) (a : Int) (h : Rising l) : Rising (withL l s a) := rising_insL s a _ (rising_without l s h) (without_no l s)
theorem rising_did (l : List DN) (o : DOp) (h : Rising l) : Rising (didL l o) := by
  unfold didL
  split
  · exact rising_with _ _ _ h
  · split
    · exact h
    · split
      · exact rising_with _ _ _ (rising_without _ _ h)
      · exact rising_without _ _ h
theorem rising_crash (safe : List DN) (ops : List DOp) (kl : List Bool) (h : Rising safe) : ∀ i, Rising (crashD safe ops kl i)
  | 0 => h
  | i + 1 => by
    unfold crashD
    split
    · exact rising_did _ _ (rising_crash safe ops kl h i)
    · exact rising_crash safe ops kl h i
theorem nm_sort (l : List DN) (h : Rising l) : (nmL l).mergeSort leB = nmL l := by
  refine List.mergeSort_of_pairwise (h.imp ?_)
  intro a b hab
  exact decide_eq_true (List.le_of_lt hab)
theorem mapF_str (l : List DN) (x : List UInt8) : (mapF l (.string x)).isSome = true ↔ x ∈ nmL l := by
  induction l with
  | nil => simp [mapF, nmL]
  | cons p t ih =>
    rw [mapF_cons]
    unfold nmL
    rw [List.map_cons, List.mem_cons]
    by_cases h : kS p.1 = .string x
    · rw [if_pos h]
      unfold kS at h
      injection h with h
      simp [h]
    · rw [if_neg h, ih]
      have : x ≠ p.1.data.toList := fun e => h (by unfold kS; rw [e])
      simp [this, nmL]
theorem rising_nodup (l : List DN) (h : Rising l) : (nmL l).Nodup := h.imp (fun hab e => by subst e; exact List.lt_irrefl _ hab)
theorem perm_nm {w : World} {m n : Nat} {D : DataW Value} {l : List DN} (hown : w.ownsMap Try.prog 9 R0 m n D) (ht : Tells D (mapF l)) (hr : Rising l) : (nmL l).Perm (strKeys D) := by
  obtain ⟨es, hD, hp, hk⟩ := hown.entries lawS
  subst hD
  refine perm_strKeys hp (fun p hpm => ?_) (rising_nodup l hr) (fun x => ?_)
  · have h1 : has (.map es) p.1 = true := by
      rw [has_eq, List.any_eq_true]
      exact ⟨p, hpm, WideAt.sameKey_self (hk p hpm)⟩
    rw [ht.has] at h1
    unfold mapF at h1
    split at h1
    · rename_i q hq
      have h9 := List.find?_some hq
      simp only [decide_eq_true_eq] at h9
      exact ⟨_, h9.symm⟩
    · cases h1
  · rw [ht.has, ← mapF_str]
theorem size_of {w : World} {m n : Nat} {D : DataW Value} (hown : w.ownsMap Try.prog 9 R0 m n D) : Maps.size D ≤ n := hown.size_le
/-- maps.Keys. -/
theorem keys_any (mb : Option Nat) (w : World) : Calls Try.prog 100 #[.map mb] w fun e w' => e = .returned (.func (.func 116) #[] #[.pointer (some ⟨w.heap.size, 0, none⟩)]) ∧ w' = w.alloc (.cells #[.map mb] 85) :=
  (callsIn_wide (n := 5)).1 (AnyZ.keys_in Try.keys100 Fence.wide 5 trivial rfl mb w)
theorem sorts_in (m : Nat) : AnyZ.SortsIn Try.prog Try.sorted99_ren Fence.wide m :=
  ⟨fun blk off cap ss W hH hblk hsz => callsIn_wide.2 (AnyM.slices_Sort_string Try.sort115 blk off cap ss W hH hblk hsz),
   fun p cap W => callsIn_wide.2 (AnyM.slices_Sort_string_none Try.sort115 p cap W)⟩
set_option maxHeartbeats 1000000 in
theorem sorted_any (b nn : Nat) (D0 : DataW Value) (w : World) (hown : w.ownsMap Try.prog 9 R0 b nn D0) (hmax : Maps.size D0 ≤ maxLen) (hbytes : Maps.size D0 * 16 ≤ 140737488355328) :
    Calls Try.prog 99 #[.func (.func 116) #[] #[.pointer (some ⟨w.heap.size, 0, none⟩)]] (w.alloc (.cells #[.map (some b)] 85)) fun e w' => ∃ (v : Value) (ss : List (List UInt8)), e = .returned v ∧ ss.Perm (strKeys D0) ∧
      w'.ownsRow (w.alloc (.cells #[.map (some b)] 85)).heap.size 9 1 v ss.length ((ss.mergeSort leB).map encStr) ∧ Below (w.alloc (.cells #[.map (some b)] 85)).heap.size (w.alloc (.cells #[.map (some b)] 85)) w' := by
  have hbl := hown.lt
  have hseq : SeqGives Fence.wide 2 Try.prog 116 #[.pointer (some ⟨w.heap.size, 0, none⟩)] encStr (fun ss => ss.Perm (strKeys D0)) (Maps.size D0) (w.alloc (.cells #[.map (some b)] 85)) :=
    AnyZ.keys_gives (ρ := Try.keys100_ren) { Try.keys100 with } Fence.wide _ trivial rfl (by omega) w.heap.size b nn D0 _ (by simp) (by simp) (by
      obtain ⟨es, clock, hb, Ft, hs, hD⟩ := hown
      exact ⟨es, clock, (Below.heap_alloc _ _ b hbl).trans hb, Ft, hs, hD⟩)
  have h := AnyZ.sorted_in Try.sorted99 Fence.wide 5 trivial trivial trivial trivial rfl (by omega) (sorts_in _) (enters_of Try.func115 (by kernel_rfl) rfl) 116 #[.pointer (some ⟨w.heap.size, 0, none⟩)] trivial (enters_of Try.func116 (by kernel_rfl) rfl) _ _ hmax hbytes _ hseq
  refine ((callsIn_wide (n := 5)).1 h).mono ?_
  rintro e w' ⟨v, ss, h1, h2, h3, _, h5⟩
  exact ⟨v, ss, h1, h2, h3, h5⟩
/-- The code's Names. -/
theorem dnames_any (b g mn ms N : Nat) (vo : Value) (now safe : List DN) (ops : List DOp) (w : World) (h : DI w b g mn ms vo N now safe ops) (hr : Rising now) (hN : N ≤ 1000000) : Calls Try.prog 50 #[.pointer (some ⟨g, 0, none⟩)] w fun e w' => ∃ v, e = .returned v ∧ Kd.R Kd.string 9 w' w.heap.size (fun _ => True) v (now.map (·.1)) ∧ Below w.heap.size w w' := by
  have hc0 := (blk_cell h.hb 0).trans (rfl : _ = some (Value.map (some mn)))
  obtain ⟨D, hown, ht⟩ := h.hn
  have hp := perm_nm hown ht hr
  have hsz : Maps.size D ≤ N := hown.size_le
  have HC := Aside0.mk (sorted_any mn N D w hown (by unfold maxLen; omega) (by omega))
  have HP := Aside0.mk hp
  have HR := Aside0.mk hr
  clear h hown ht hp hr
  go_enter Try.func50, Try.ntmps50
  go_wp2_with (first
    | (go_at_call 100; refine (keys_any _ _).mono ?_; rintro e w1 ⟨rfl, rfl⟩)
    | (go_at_call 99; refine HC.out.mono ?_; rintro e w2 ⟨v, ss, rfl, hss, hrow, hb⟩; have HX := Aside0.mk (And.intro hss hrow); have HB := Aside0.mk hb; clear hss hrow hb))
  go_ret
  obtain ⟨hss, hrow⟩ := HX.out
  have e : ss.mergeSort leB = nmL now := by rw [mergeSort_of_perm (hss.trans HP.out.symm), nm_sort now HR.out]
  have hl : ss.length = (now.map (·.1)).length := by rw [(hss.trans HP.out.symm).length_eq]; simp [nmL]
  rw [e, hl] at hrow
  have e2 : (nmL now).map encStr = (now.map (·.1)).map Value.string := by
    unfold nmL
    rw [List.map_map, List.map_map]
    refine List.map_congr_left (fun p _ => ?_)
    show Value.string ⟨p.1.data.toList.toArray⟩ = Value.string p.1
    rw [Array.toArray_toList]
  rw [e2] at hrow
  have hsz2 : (w.alloc (.cells #[.map (some mn)] 85)).heap.size = w.heap.size + 1 := World.size_alloc ..
  have hR : Kd.R Kd.string 9 w2 (w.alloc (.cells #[.map (some mn)] 85)).heap.size (fun _ => True) v (now.map (·.1)) := Kd.R_of_own hrow (fun _ _ => trivial)
  exact ⟨v, rfl, Kd.R_lower hR (by rw [hsz2]; omega), below_step (below_alloc (Below.refl _ _) _) HB.out⟩
theorem dnames_nil (w : World) : Calls Try.prog 50 #[.pointer none] w fun e w' => e = .returned (.slice none 0 0) ∧ w = w' := by
  go_enter Try.func50, Try.ntmps50
  go_wp2
  go_ret
  exact ⟨rfl, rfl⟩
/-- maps.Clone. -/
theorem mclone_any (m n : Nat) (f : Lit → Option Value) (w : World) (h : MV w Try.prog 9 m n f) : Calls Try.prog 97 #[.map (some m)] w fun e w' => e = .returned (.map (some w.heap.size)) ∧ MV w' Try.prog 9 w.heap.size n f ∧ Below w.heap.size w w' := by
  obtain ⟨D, hown, ht⟩ := h
  have hcon := AnyW.maps_Clone_owns Try.clone97 9 R0 m n D w hown
  change Calls Try.prog 97 _ _ _ at hcon
  refine hcon.mono ?_
  rintro e w' ⟨he, h1, _, hB⟩
  exact ⟨he, ⟨D, h1, ht⟩, hB⟩
theorem dsync_any (b g mn ms N : Nat) (vo : Value) (now safe : List DN) (ops : List DOp) (w : World) (h : DI w b g mn ms vo N now safe ops) : Calls Try.prog 47 #[.pointer (some ⟨g, 0, none⟩)] w fun e w' => e = .returned (.tuple #[]) ∧ DI w' b g mn w.heap.size (.slice none 0 0) N now now [] ∧ KeepBut w w' g none ∧ Below b w w' := by
  have hc0 := (blk_cell h.hb 0).trans (rfl : _ = some (Value.map (some mn)))
  have hbw : b ≤ w.heap.size := Nat.le_trans h.hg (Nat.le_of_lt (blk_lt h.hb))
  have H := Aside0.mk h
  have HM := Aside0.mk h.hn
  clear h
  go_enter Try.func47, Try.ntmps47
  go_wp2_with (go_at_call 97; refine (mclone_any mn N (mapF now) _ HM.out).mono ?_; rintro e w1 ⟨rfl, hv, hb1⟩; have hbk := blk_below H.out.hb hb1; have k1 := (blk_cell hbk 1).trans (rfl : _ = some (Value.map (some ms))); have k2 := (blk_cell hbk 2).trans (rfl : _ = some vo); have f1 := blk_frozen hbk 1; have f2 := blk_frozen hbk 2; have HV := Aside0.mk hv; have HB := Aside0.mk hb1; have HK := Aside0.mk hbk; clear hv hb1 hbk)
  first | go_end0 | ((try simp only [Exit.inBlock, Exit.then]); refine bodyPost_ret (results_none rfl _ _ _) rfl ?_)
  have hb1 := blk_put HK.out 1 (.map (some w.heap.size)) rfl
  have hmv : ∀ (m : Nat) (f : Lit → Option Value), MV w1 Try.prog 9 m N f → MV ((w1.setCell ⟨g, 1, none⟩ (.map (some w.heap.size))).setCell ⟨g, 2, none⟩ (.slice none 0 0)) Try.prog 9 m N f := by
    intro m f hm
    have h1 := hm.setCell (a := ⟨g, 1, none⟩) (hm.ne HK.out) (.map (some w.heap.size))
    exact h1.setCell (h1.ne hb1) _
  have hmlt := H.out.hn.lt
  exact ⟨rfl, ⟨blk_put hb1 2 _ rfl, hmv _ _ (H.out.hn.below HB.out), hmv _ _ HV.out, Kd.R_nil _ _ _ _ _, H.out.hg, H.out.hmn, hbw, by omega⟩, ((KeepBut.of_below HB.out g none).set_ 1 _).set_ 2 _, ((HB.out.mono hbw).setCell (p := ⟨g, 1, none⟩) H.out.hg _).setCell (p := ⟨g, 2, none⟩) H.out.hg _⟩
theorem dsync_nil (w : World) : Calls Try.prog 47 #[.pointer none] w fun e w' => e = .returned (.tuple #[]) ∧ w = w' := by
  go_enter Try.func47, Try.ntmps47
  go_wp2
  first | go_end0 | ((try simp only [Exit.inBlock, Exit.then]); refine bodyPost_ret (results_none rfl _ _ _) rfl ?_)
  exact ⟨rfl, rfl⟩
end Go.Proofs.Ytpnbjpkdbiiogaa
/- The disk in memory: what it holds; what keeps it. -/
namespace Go.Proofs.Ytpnbjpkdbiiogaa
set_option linter.unusedVariables false
open Go.RowKit Go.Maps Go.Proofs.YtpnbjpkdbiiogaaW.PrintWords
attribute [local go_sem] mx2 mn2 mxTwo mnTwo

/-- A file of the disk: its number, where it lies, what it holds. -/
structure FR where
  id : Int
  g : Nat
  vn : Value
  vs : Value
  vo : Value
  now : List Int
  safe : List Int
  ops : List FOp
def FR.v (p : FR) : Value := .pointer (some ⟨p.g, 0, none⟩)
def fileAt (fl : List FR) (id : Int) : Option FR := fl.find? (fun p => decide (p.id = id))
open Classical in
noncomputable def filesF (fl : List FR) : Lit → Option Value := fun q => (fl.find? (fun p => decide (Lit.int .i64 p.id = q))).map FR.v
open Classical in
theorem filesF_at (fl : List FR) (id : Int) : filesF fl (.int .i64 id) = (fileAt fl id).map FR.v := by
  unfold filesF fileAt
  congr 2
  funext p
  simp
theorem filesF_nil : filesF [] = fun _ => none := rfl
open Classical in
theorem filesF_snoc (fl : List FR) (p : FR) (h : fileAt fl p.id = none) : filesF (fl ++ [p]) = upd (filesF fl) (.int .i64 p.id) (some p.v) := by
  funext q
  by_cases e : q = .int .i64 p.id
  · subst e
    rw [upd_same, filesF_at]
    unfold fileAt at h ⊢
    rw [List.find?_append, h]
    simp
  · rw [upd_other _ _ e]
    unfold filesF
    rw [List.find?_append]
    have : List.find? (fun p => decide (Lit.int .i64 p.id = q)) [p] = none := by simp [Ne.symm e]
    rw [this]
    simp
/-- Another file in the place of one. -/
def setFile (fl : List FR) (p' : FR) : List FR := fl.map (fun p => if p.id = p'.id then p' else p)
open Classical in
theorem filesF_set (fl : List FR) (p' : FR) (h : ∀ p ∈ fl, p.id = p'.id → p.g = p'.g) : filesF (setFile fl p') = filesF fl := by
  funext q
  unfold filesF setFile
  induction fl with
  | nil => rfl
  | cons a t ih =>
    have iht := ih (fun p hp => h p (List.mem_cons_of_mem _ hp))
    simp only [List.map_cons, List.find?_cons]
    by_cases ha : a.id = p'.id
    · rw [if_pos ha]
      by_cases hq : Lit.int .i64 p'.id = q
      · have hg := h a (List.mem_cons_self ..) ha
        simp [ha, hq, FR.v, hg]
      · simp only [ha, hq, decide_false]
        exact iht
    · rw [if_neg ha]
      by_cases hq : Lit.int .i64 a.id = q
      · simp [hq]
      · simp only [hq, decide_false]
        exact iht
theorem fileAt_mem {fl : List FR} {id : Int} {p : FR} (h : fileAt fl id = some p) : p ∈ fl ∧ p.id = id := by
  unfold fileAt at h
  exact ⟨List.mem_of_find?_eq_some h, by simpa using List.find?_some h⟩
/-- What a file's rows are not: the other files' rows of operations. -/
def apx (y : Nat → Prop) (fl : List FR) (p : FR) : Nat → Prop := fun k => y k ∧ ∀ q ∈ fl, q.g ≠ p.g → some k ≠ q.vo.ownBlock
theorem apx.mk {y : Nat → Prop} {fl : List FR} {p : FR} {k : Nat} (h1 : y k) (h2 : ∀ q ∈ fl, q.g ≠ p.g → some k ≠ q.vo.ownBlock) : apx y fl p k := ⟨h1, h2⟩
structure FsI (W : World) (b : Nat) (y : Nat → Prop) (fl : List FR) : Prop where
  hf : ∀ p ∈ fl, FI W b p.g (apx y fl p) p.vn p.vs p.vo p.now p.safe p.ops
  ap : fl.Pairwise (fun p q => p.id ≠ q.id ∧ p.g ≠ q.g)
  hy : ∀ k, W.heap.size ≤ k → y k
/-- The disk. -/
structure DK (W : World) (b : Nat) (y : Nat → Prop) (g gd mn ms : Nat) (vo : Value) (N : Nat) (now safe : List DN) (ops : List DOp) (mf M : Nat) (fl : List FR) (next room fuse : Int) (armed dead : Bool) : Prop where
  hb : W.heap[g]? = some (.cells #[.pointer (some ⟨gd, 0, none⟩), .map (some mf), .int .i64 next, .int .i64 room, .int .i64 fuse, .bool armed, .bool dead] 161 (0, 0))
  hd : DI W b gd mn ms vo N now safe ops
  hm : MV W Try.prog 3 mf M (filesF fl)
  hf : FsI W b y fl
  hg : b ≤ g
  hmf : b ≤ mf
  n1 : mf ≠ mn
  n2 : mf ≠ ms
theorem FI.move {W W' : World} {b g : Nat} {x x' : Nat → Prop} {vn vs vo : Value} {now safe : List Int} {ops : List FOp} (h : FI W b g x vn vs vo now safe ops) (hg : W'.heap[g]? = W.heap[g]?)
    (hr : ∀ k, x k → k < W.heap.size → (∃ cs T, (T = 5 ∨ T = 141) ∧ W.heap[k]? = some (.cells cs T (0, 0))) → W'.heap[k]? = W.heap[k]? ∧ x' k) : FI W' b g x' vn vs vo now safe ops := by
  have key : ∀ k, (x k ∧ b ≤ k ∧ k < W.heap.size ∧ ∃ q, (q = 5 ∨ q = 141) ∧ ∃ cells, W.heap[k]? = some (.cells cells q (0, 0))) → W'.heap[k]? = W.heap[k]? ∧ x' k := fun k hk => by
    obtain ⟨h1, _, h3, q, h4, cs, h5⟩ := hk
    exact hr k h1 h3 ⟨cs, q, h4, h5⟩
  have hu : ∀ {v : Value} {xs : List Int}, Kd.R (Kd.int .u8) 5 W b x v xs → Kd.R (Kd.int .u8) 5 W' b x' v xs := fun h0 => by
    refine Kd.R_mono (Kd.R_move (Kd.R_bound h0) (fun k hk => ?_)) (fun k hk => ?_)
    all_goals
      obtain ⟨h1, h2, h3, q, h4, h5⟩ := hk
      have hq : q = 5 := by
        have : (Kd.int .u8).E = [] := rfl
        rw [this] at h4
        simpa using h4
      have := key k ⟨h1, h2, h3, q, .inl hq, h5⟩
    · exact this.1
    · exact this.2
  refine ⟨hg.trans h.hb, hu h.hn, hu h.hs, ?_, h.hg⟩
  refine Kd.R_mono (Kd.R_move (Kd.R_bound h.ho) (fun k hk => ?_)) (fun k hk => ?_)
  all_goals
    obtain ⟨h1, h2, h3, q, h4, h5⟩ := hk
    have hq : q = 5 ∨ q = 141 := by
      have : kOp.E = [5] := rfl
      rw [this] at h4
      simp at h4
      exact h4.symm
    have := key k ⟨h1, h2, h3, q, hq, h5⟩
  · exact this.1
  · exact this.2
theorem DI.move {W W' : World} {b g mn ms N : Nat} {vo : Value} {now safe : List DN} {ops : List DOp} (h : DI W b g mn ms vo N now safe ops) (hg : W'.heap[g]? = W.heap[g]?) (hn : W'.heap[mn]? = W.heap[mn]?) (hs : W'.heap[ms]? = W.heap[ms]?)
    (hr : ∀ k, k < W.heap.size → (∃ cs, W.heap[k]? = some (.cells cs 149 (0, 0))) → W'.heap[k]? = W.heap[k]?) : DI W' b g mn ms vo N now safe ops := by
  refine ⟨hg.trans h.hb, h.hn.move hn, h.hs.move hs, ?_, h.hg, h.hmn, h.hms, h.ne⟩
  refine Kd.R_mono (Kd.R_move (Kd.R_bound h.ho) (fun k hk => ?_)) (fun k hk => trivial)
  obtain ⟨h1, h2, h3, q, h4, cs, h5⟩ := hk
  have hq : q = 149 := by
    have : kDop.E = [] := rfl
    rw [this] at h4
    simpa using h4
  subst hq
  exact hr k h3 ⟨cs, h5⟩
section
variable {W W1 : World} {b g gd mn ms N mf M : Nat} {y : Nat → Prop} {vo : Value} {now safe : List DN} {ops : List DOp} {fl : List FR} {next room fuse : Int} {armed dead : Bool}
theorem FsI.below (h : FsI W b y fl) (hb : Below W.heap.size W W1) : FsI W1 b y fl := ⟨fun p hp => (h.hf p hp).below hb, h.ap, fun k hk => h.hy k (Nat.le_trans hb.size hk)⟩
theorem DK.below (h : DK W b y g gd mn ms vo N now safe ops mf M fl next room fuse armed dead) (hb : Below W.heap.size W W1) : DK W1 b y g gd mn ms vo N now safe ops mf M fl next room fuse armed dead :=
  ⟨blk_below h.hb hb, h.hd.below hb, h.hm.below hb, h.hf.below hb, h.hg, h.hmf, h.n1, h.n2⟩
theorem sz_own {W W1 : World} {g : Nat} {o : Obj} (hb : W1.heap[g]? = some o) (hk : ∀ k, k ≠ g → W1.heap[k]? = W.heap[k]?) : W.heap.size ≤ W1.heap.size := by
  refine Nat.le_of_not_lt fun hlt => ?_
  have h1 : W1.heap[W1.heap.size]? = none := Array.getElem?_eq_none (Nat.le_refl _)
  by_cases e : W1.heap.size = g
  · rw [e, hb] at h1
    cases h1
  · rw [hk _ e, Array.getElem?_eq_getElem hlt] at h1
    cases h1
/-- The disk's own block is turned, no other one. -/
theorem DK.own (h : DK W b y g gd mn ms vo N now safe ops mf M fl next room fuse armed dead) {next1 room1 fuse1 : Int} {armed1 dead1 : Bool}
    (hb : W1.heap[g]? = some (.cells #[.pointer (some ⟨gd, 0, none⟩), .map (some mf), .int .i64 next1, .int .i64 room1, .int .i64 fuse1, .bool armed1, .bool dead1] 161 (0, 0)))
    (hk : ∀ k, k ≠ g → W1.heap[k]? = W.heap[k]?) : DK W1 b y g gd mn ms vo N now safe ops mf M fl next1 room1 fuse1 armed1 dead1 := by
  have hty : ∀ (k : Nat) (cs : Array Value) (T : TypeId), T ≠ 161 → W.heap[k]? = some (.cells cs T (0, 0)) → W1.heap[k]? = W.heap[k]? := fun k cs T hT hkk => hk k (blk_ne hkk h.hb hT)
  refine ⟨hb, ?_, h.hm.move (hk mf (h.hm.ne h.hb)), ⟨fun p hp => ?_, h.hf.ap, fun k hkk => h.hf.hy k (Nat.le_trans (sz_own hb hk) hkk)⟩, h.hg, h.hmf, h.n1, h.n2⟩
  · exact h.hd.move (hty gd _ _ (by decide) h.hd.hb) (hk mn (h.hd.hn.ne h.hb)) (hk ms (h.hd.hs.ne h.hb)) (fun k _ ⟨cs, hc⟩ => hty k cs _ (by decide) hc)
  · have hp1 := h.hf.hf p hp
    exact hp1.move (hty p.g _ _ (by decide) hp1.hb) (fun k hx _ ⟨cs, T, hT, hc⟩ => ⟨hty k cs T (by rcases hT with rfl | rfl <;> decide) hc, hx⟩)
end
end Go.Proofs.Ytpnbjpkdbiiogaa
/- The disk: New; a change is counted; a name's file; its sectors. -/
namespace Go.Proofs.Ytpnbjpkdbiiogaa
set_option linter.unusedVariables false
open Go.RowKit Go.Maps Go.Proofs.YtpnbjpkdbiiogaaW.PrintWords
attribute [local go_sem] mx2 mn2 mxTwo mnTwo

theorem lawI : Keyed Try.prog 3 := int_keyed Try.underlying3
theorem zeroPF (w : World) : (zeroValue 41).run Try.prog w = .ok (.pointer none) w := by kernel_rfl
theorem knew_any (b : Nat) (y : Nat → Prop) (room : Int) (w : World) (hb : b ≤ w.heap.size) (hy : ∀ k, w.heap.size ≤ k → y k) : Calls Try.prog 61 #[.int .i64 room] w fun e w' => ∃ g gd mn ms mf, e = .returned (.pointer (some ⟨g, 0, none⟩)) ∧ DK w' b y g gd mn ms (.slice none 0 0) 0 [] [] [] mf 0 [] 0 (if room < 0 then 0 else room) 0 false false ∧ Below w.heap.size w w' := by
  have hmm := @run_makeMap Try.prog
  obtain ⟨rm, hrm⟩ : ∃ rm, rm = (if room < 0 then 0 else room) := ⟨_, rfl⟩
  rw [← hrm]
  have HRM := Aside0.mk hrm
  clear hrm
  have key : ∀ (gd mn ms : Nat) (w1 : World) (r : Int), rm = r → DI w1 b gd mn ms (.slice none 0 0) 0 [] [] [] → Below w.heap.size w w1 → mn < w1.heap.size → ms < w1.heap.size →
      DK ((w1.alloc (.map #[] 0)).alloc (.cells #[.pointer (some ⟨gd, 0, none⟩), .map (some w1.heap.size), .int .i64 0, .int .i64 r, .int .i64 0, .bool false, .bool false] 161)) b y (w1.heap.size + 1) gd mn ms (.slice none 0 0) 0 [] [] [] w1.heap.size 0 [] 0 rm 0 false false ∧
      Below w.heap.size w ((w1.alloc (.map #[] 0)).alloc (.cells #[.pointer (some ⟨gd, 0, none⟩), .map (some w1.heap.size), .int .i64 0, .int .i64 r, .int .i64 0, .bool false, .bool false] 161)) := by
    rintro gd mn ms w1 r rfl hd hbl hl1 hl2
    have hs := hbl.size
    have hz : (w1.alloc (.map #[] 0)).heap.size = w1.heap.size + 1 := World.size_alloc ..
    have hbb : Below w1.heap.size w1 ((w1.alloc (.map #[] 0)).alloc (.cells #[.pointer (some ⟨gd, 0, none⟩), .map (some w1.heap.size), .int .i64 0, .int .i64 rm, .int .i64 0, .bool false, .bool false] 161)) := below_alloc (below_alloc (Below.refl _ _) _) _
    refine ⟨⟨?_, hd.below hbb, ((MV.made w1 Try.prog 3).below (below_alloc (Below.refl _ _) _)).congr (fun q => rfl), ⟨fun p hp => by simp at hp, List.Pairwise.nil, fun k hk => hy k (Nat.le_trans (Nat.le_trans hs hbb.size) hk)⟩, by omega, by omega, by omega, by omega⟩, below_step hbl hbb⟩
    have := blk_new (w1.alloc (.map #[] 0)) (.cells #[.pointer (some ⟨gd, 0, none⟩), .map (some w1.heap.size), .int .i64 0, .int .i64 rm, .int .i64 0, .bool false, .bool false] 161)
    rw [hz] at this
    exact this
  have HK := Aside0.mk key
  clear key
  by_cases hr : room < 0
  all_goals
    go_enter Try.func61, Try.ntmps61
    go_wp2_with (go_at_call 43; refine (dnew_any b _ hb).mono ?_; rintro e w1 ⟨gd, mn, ms, rfl, h1, h2, h3, hd, hbl⟩; have HD := Aside0.mk hd; have HBL := Aside0.mk hbl; have HL1 := Aside0.mk hd.hn.lt; have HL2 := Aside0.mk hd.hs.lt; clear hd hbl h1 h2 h3)
    go_ret
    first
    | (have hfin := HK.out gd mn ms w1 0 (by have := HRM.out; split at this <;> omega) HD.out HBL.out HL1.out HL2.out; first | exact ⟨_, rfl, ⟨_, _, _, _, hfin.1⟩, hfin.2⟩ | exact ⟨_, _, _, _, _, rfl, hfin.1, hfin.2⟩)
    | (have hfin := HK.out gd mn ms w1 room (by have := HRM.out; split at this <;> omega) HD.out HBL.out HL1.out HL2.out; first | exact ⟨_, rfl, ⟨_, _, _, _, hfin.1⟩, hfin.2⟩ | exact ⟨_, _, _, _, _, rfl, hfin.1, hfin.2⟩)
/-- What a change tells; what is left of the fuse; whether the disk has stopped. -/
def chg (fuse : Int) (armed dead : Bool) : Int × Int × Bool := if dead then (26, fuse, true) else if armed then (if fuse = 0 then (26, fuse, true) else (0, fuse - 1, false)) else (0, fuse, false)
theorem change_any (b : Nat) (y : Nat → Prop) (g gd mn ms : Nat) (vo : Value) (N : Nat) (now safe : List DN) (ops : List DOp) (mf M : Nat) (fl : List FR) (next room fuse : Int) (armed dead : Bool) (w : World) (h : DK w b y g gd mn ms vo N now safe ops mf M fl next room fuse armed dead) (h0 : 0 ≤ fuse) (h1 : fuse ≤ 9223372036854775807) : Calls Try.prog 103 #[.pointer (some ⟨g, 0, none⟩)] w fun e w' => e = .returned (.int .i64 (chg fuse armed dead).1) ∧ DK w' b y g gd mn ms vo N now safe ops mf M fl next room (chg fuse armed dead).2.1 armed (chg fuse armed dead).2.2 ∧ (∀ k, k ≠ g → w'.heap[k]? = w.heap[k]?) ∧ Below b w w' := by
  have c4 := (blk_cell h.hb 4).trans (rfl : _ = some (Value.int .i64 fuse))
  have c5 := (blk_cell h.hb 5).trans (rfl : _ = some (Value.bool armed))
  have c6 := (blk_cell h.hb 6).trans (rfl : _ = some (Value.bool dead))
  have f4 := blk_frozen h.hb 4
  have f6 := blk_frozen h.hb 6
  have H := Aside0.mk h
  clear h
  cases dead
  · cases armed
    · go_enter Try.func103, Try.ntmps103
      go_wp2
      go_ret
      exact ⟨rfl, H.out, fun _ _ => rfl, Below.refl _ _⟩
    · by_cases hz : fuse = 0
      · subst hz
        go_enter Try.func103, Try.ntmps103
        go_wp2
        go_ret
        exact ⟨rfl, H.out.own (blk_put H.out.hb 6 _ rfl) (fun k hk => Below.heap_setCell w _ _ k hk), fun k hk => Below.heap_setCell w _ _ k hk, (Below.refl _ _).setCell (p := ⟨g, 6, none⟩) H.out.hg _⟩
      · have hc : chg fuse true false = (0, fuse - 1, false) := by unfold chg; simp [hz]
        have HC := Aside0.mk hc
        clear hc
        go_enter Try.func103, Try.ntmps103
        go_wp2
        go_ret
        rw [HC.out]
        exact ⟨rfl, H.out.own (blk_put H.out.hb 4 _ rfl) (fun k hk => Below.heap_setCell w _ _ k hk), fun k hk => Below.heap_setCell w _ _ k hk, (Below.refl _ _).setCell (p := ⟨g, 4, none⟩) H.out.hg _⟩
  · go_enter Try.func103, Try.ntmps103
    go_wp2
    go_ret
    exact ⟨rfl, H.out, fun _ _ => rfl, Below.refl _ _⟩
/-- Names that have files; files that are no longer than may be. -/
structure KG (now : List DN) (fl : List FR) : Prop where
  id : ∀ p ∈ now, 0 ≤ p.2 ∧ p.2 ≤ 1000000 ∧ ∃ f, fileAt fl p.2 = some f
  len : ∀ f ∈ fl, f.now.length ≤ 1048576 ∧ f.ops.length ≤ 500000
theorem getN_mem : ∀ {l : List DN} {s : ByteArray} {id : Int}, getN l s = some id → (s, id) ∈ l
  | [], s, id, h => by cases h
  | p :: t, s, id, h => by
    rw [getN_cons] at h
    split at h
    · rename_i e
      cases h
      subst e
      exact List.mem_cons_self ..
    · exact List.mem_cons_of_mem _ (getN_mem h)
theorem of_none (b : Nat) (y : Nat → Prop) (g gd mn ms : Nat) (vo : Value) (N : Nat) (now safe : List DN) (ops : List DOp) (mf M : Nat) (fl : List FR) (next room fuse : Int) (armed dead : Bool) (w : World) (h : DK w b y g gd mn ms vo N now safe ops mf M fl next room fuse armed dead) (s : ByteArray) (hs : s.size ≤ maxLen) (hn : getN now s = none) : Calls Try.prog 105 #[.pointer (some ⟨g, 0, none⟩), .string s] w fun e w' => e = .returned (.tuple #[.pointer none, .int .i64 6]) ∧ w = w' := by
  have c0 := (blk_cell h.hb 0).trans (rfl : _ = some (Value.pointer (some ⟨gd, 0, none⟩)))
  have H := Aside0.mk h
  have HN := Aside0.mk hn
  clear h hn
  go_enter Try.func105, Try.ntmps105
  go_wp2_with (go_at_call 59; refine (dget_any b gd mn ms N vo now safe ops s _ H.out.hd hs).mono ?_; rw [HN.out]; rintro e w1 ⟨rfl, rfl⟩)
  go_ret2
  exact ⟨rfl, rfl⟩
theorem of_some (b : Nat) (y : Nat → Prop) (g gd mn ms : Nat) (vo : Value) (N : Nat) (now safe : List DN) (ops : List DOp) (mf M : Nat) (fl : List FR) (next room fuse : Int) (armed dead : Bool) (w : World) (h : DK w b y g gd mn ms vo N now safe ops mf M fl next room fuse armed dead) (s : ByteArray) (hs : s.size ≤ maxLen) (id : Int) (hi0 : 0 ≤ id) (hi1 : id ≤ 1000000) (p : FR) (hn : getN now s = some id) (hp : fileAt fl id = some p) : Calls Try.prog 105 #[.pointer (some ⟨g, 0, none⟩), .string s] w fun e w' => e = .returned (.tuple #[.pointer (some ⟨p.g, 0, none⟩), .int .i64 0]) ∧ w = w' := by
  have c0 := (blk_cell h.hb 0).trans (rfl : _ = some (Value.pointer (some ⟨gd, 0, none⟩)))
  have c1 := (blk_cell h.hb 1).trans (rfl : _ = some (Value.map (some mf)))
  have HK := Aside0.mk (keyOf_int_mk (P := Try.prog) Try.underlying3 (WalkArith.wf_i64 (by omega) : (Lit.int .i64 id).wf = true))
  have HV := Aside0.mk (show (filesF fl (.int .i64 id)).getD (Value.pointer none) = .pointer (some ⟨p.g, 0, none⟩) by rw [filesF_at, hp]; rfl)
  have H := Aside0.mk h
  have HN := Aside0.mk hn
  clear h hn hp
  go_enter Try.func105, Try.ntmps105
  go_wp2_with (first
    | (go_at_call 59; refine (dget_any b gd mn ms N vo now safe ops s _ H.out.hd hs).mono ?_; rw [HN.out]; rintro e w1 ⟨rfl, rfl⟩)
    | (at_lookup; refine mv_lookup rfl _ _ 159 rfl 3 41 lawI Try.underlying159 (zeroPF _) mf M (filesF fl) rfl H.out.hm _ (.int .i64 id) rfl HK.out _ HV.out ?_))
  go_ret2
  exact ⟨rfl, rfl⟩
theorem sectors_some (b : Nat) (y : Nat → Prop) (g gd mn ms : Nat) (vo : Value) (N : Nat) (now safe : List DN) (ops : List DOp) (mf M : Nat) (fl : List FR) (next room fuse : Int) (armed dead : Bool) (w : World) (h : DK w b y g gd mn ms vo N now safe ops mf M fl next room fuse armed dead) (s : ByteArray) (hs : s.size ≤ maxLen) (id : Int) (hi0 : 0 ≤ id) (hi1 : id ≤ 1000000) (p : FR) (hn : getN now s = some id) (hp : fileAt fl id = some p) (hl : p.now.length ≤ 1048576) : Calls Try.prog 109 #[.pointer (some ⟨g, 0, none⟩), .string s] w fun e w' => e = .returned (.int .i64 (cnt (p.now.length : Int))) ∧ w = w' := by
  have c0 := (blk_cell h.hb 0).trans (rfl : _ = some (Value.pointer (some ⟨gd, 0, none⟩)))
  have c1 := (blk_cell h.hb 1).trans (rfl : _ = some (Value.map (some mf)))
  have HK := Aside0.mk (keyOf_int_mk (P := Try.prog) Try.underlying3 (WalkArith.wf_i64 (by omega) : (Lit.int .i64 id).wf = true))
  have HV := Aside0.mk (show (filesF fl (.int .i64 id)).getD (Value.pointer none) = .pointer (some ⟨p.g, 0, none⟩) by rw [filesF_at, hp]; rfl)
  have HF := Aside0.mk (h.hf.hf p (fileAt_mem hp).1)
  have H := Aside0.mk h
  have HN := Aside0.mk hn
  clear h hn hp
  go_enter Try.func109, Try.ntmps109
  go_wp2_with (first
    | (go_at_call 59; refine (dget_any b gd mn ms N vo now safe ops s _ H.out.hd hs).mono ?_; rw [HN.out]; rintro e w1 ⟨rfl, rfl⟩)
    | (at_lookup; refine mv_lookup rfl _ _ 159 rfl 3 41 lawI Try.underlying159 (zeroPF _) mf M (filesF fl) rfl H.out.hm _ (.int .i64 id) rfl HK.out _ HV.out ?_)
    | (go_at_call 40; refine (flen_any b p.g _ _ _ _ _ _ _ _ HF.out).mono ?_; rintro e w2 ⟨rfl, rfl⟩)
    | (go_at_call 18; refine (count_any _ _ (by omega)).mono ?_; rintro e w3 ⟨rfl, rfl⟩))
  go_ret
  exact ⟨rfl, rfl⟩
end Go.Proofs.Ytpnbjpkdbiiogaa
/- The disk: how much room is used; whether there is more. -/
namespace Go.Proofs.Ytpnbjpkdbiiogaa
set_option linter.unusedVariables false
open Go.RowKit Go.Maps Go.Proofs.YtpnbjpkdbiiogaaW.PrintWords
attribute [local go_sem] mx2 mn2 mxTwo mnTwo

theorem wrapI {x : Int} (h0 : 0 ≤ x) (h1 : x < 9223372036854775808) : IntKind.i64.wrap x = x := by
  have e : x % 18446744073709551616 = x := by omega
  simp only [IntKind.wrap, IntKind.signed, IntKind.bits]
  have e64 : (2 : Int) ^ 64 = 18446744073709551616 := rfl
  have e63 : (2 : Int) ^ (64 - 1) = 9223372036854775808 := rfl
  simp only [e64, e63, e]
  rw [if_neg (by simp; omega)]
/-- How long a file is. -/
def lenA (fl : List FR) (id : Int) : Int := ((fileAt fl id).map (fun f => (f.now.length : Int))).getD 0
def usedF (fl : List FR) (l : List DN) : Int := l.foldl (fun n p => n + cnt (lenA fl p.2)) 0
theorem usedF_snoc (fl : List FR) (l : List DN) (p : DN) : usedF fl (l ++ [p]) = usedF fl l + cnt (lenA fl p.2) := by unfold usedF; rw [List.foldl_append]; rfl
theorem lenA_some {fl : List FR} {id : Int} {p : FR} (h : fileAt fl id = some p) : lenA fl id = p.now.length := by unfold lenA; rw [h]; rfl
theorem cnt_bd {n : Int} (h : n ≤ 1048576) : 0 ≤ cnt n ∧ cnt n ≤ 16384 := by
  unfold cnt
  split
  · omega
  · omega
theorem lenA_le {now : List DN} {fl : List FR} (h : KG now fl) (id : Int) : lenA fl id ≤ 1048576 := by
  unfold lenA
  cases e : fileAt fl id with
  | none => simp
  | some f =>
    have := (h.len f (fileAt_mem e).1).1
    simp only [Option.map_some, Option.getD_some]
    omega
theorem usedF_bd {now : List DN} {fl : List FR} (h : KG now fl) : ∀ (l : List DN) (n : Int), 0 ≤ n → 0 ≤ l.foldl (fun n p => n + cnt (lenA fl p.2)) n ∧ l.foldl (fun n p => n + cnt (lenA fl p.2)) n ≤ n + 16384 * (l.length : Int)
  | [], n, hn => by simp [hn]
  | p :: t, n, hn => by
    have hc := cnt_bd (lenA_le h p.2)
    have := usedF_bd h t (n + cnt (lenA fl p.2)) (by omega)
    rw [List.foldl_cons]
    simp only [List.length_cons]
    push_cast
    omega
theorem getN_of_mem : ∀ {l : List DN}, Rising l → ∀ {p : DN}, p ∈ l → getN l p.1 = some p.2
  | [], _, p, h => by simp at h
  | q :: t, hr, p, h => by
    obtain ⟨h1, h2⟩ := rising_cons.1 hr
    rw [getN_cons]
    rcases List.mem_cons.1 h with rfl | h
    · rw [if_pos rfl]
    · have hne : q.1 ≠ p.1 := fun e => by
        have := h1 p h
        rw [e] at this
        exact List.lt_irrefl _ this
      rw [if_neg hne]
      exact getN_of_mem h2 h
set_option maxHeartbeats 1000000 in
set_option maxRecDepth 100000 in
theorem used_any (b : Nat) (y : Nat → Prop) (g gd mn ms : Nat) (vo : Value) (N : Nat) (now safe : List DN) (ops : List DOp) (mf M : Nat) (fl : List FR) (next room fuse : Int) (armed dead : Bool) (w : World) (h : DK w b y g gd mn ms vo N now safe ops mf M fl next room fuse armed dead) (hk : KG now fl) (hr : Rising now) (hN : N ≤ 1000000) (hln : now.length ≤ 100000) (hsz : ∀ p ∈ now, p.1.size ≤ maxLen) : Calls Try.prog 83 #[.pointer (some ⟨g, 0, none⟩)] w fun e w' => e = .returned (.int .i64 (usedF fl now)) ∧ Below w.heap.size w w' := by
  have c0 := (blk_cell h.hb 0).trans (rfl : _ = some (Value.pointer (some ⟨gd, 0, none⟩)))
  have H := Aside0.mk h
  have HK := Aside0.mk hk
  have HR := Aside0.mk hr
  have HS := Aside0.mk hsz
  clear h hk hr hsz
  go_enter Try.func83, Try.ntmps83
  go_wp2_with (go_at_call 50; refine (dnames_any b gd mn ms N vo now safe ops _ H.out.hd HR.out hN).mono ?_; rintro e w1 ⟨v, rfl, hv, hb⟩; obtain ⟨A, c, rfl⟩ := Kd.R_slice hv; rw [List.length_map] at hv ⊢; have HV := Aside0.mk hv; have HB := Aside0.mk hb; clear hv hb)
  go_loopg [3, 14] now.length (fun gk v3 v14 wr => ∃ i : Nat, v3 = .int .i64 (usedF fl (now.take i)) ∧ v14 = .int .i64 (i : Nat) ∧ i ≤ now.length ∧ Aside0 (gk = now.length - i) ∧ Aside0 (Below w1.heap.size w1 wr))
  case atStart => exact ⟨0, rfl, rfl, Nat.zero_le _, ⟨rfl⟩, ⟨Below.refl _ _⟩⟩
  case round =>
    obtain ⟨i, rfl, rfl, hi, hg, HW⟩ := hrel
    by_cases hlt : i < now.length
    · obtain ⟨p, hp⟩ : ∃ p, p = now.getD i zDN := ⟨_, rfl⟩
      have hpm : p ∈ now := by
        rw [hp, List.getD_eq_getElem?_getD, List.getElem?_eq_getElem hlt]
        exact List.getElem_mem _
      have hT : now.take (i + 1) = now.take i ++ [p] := by
        rw [hp, List.take_add_one, List.getElem?_eq_getElem hlt, List.getD_eq_getElem?_getD, List.getElem?_eq_getElem hlt]
        rfl
      obtain ⟨hid0, hid1, f, hf⟩ := HK.out.id p hpm
      have HN := Aside0.mk (getN_of_mem HR.out hpm)
      have HL := Aside0.mk (HK.out.len f (fileAt_mem hf).1).1
      have HU := Aside0.mk (show usedF fl (now.take (i + 1)) = usedF fl (now.take i) + cnt (f.now.length : Int) by rw [hT, usedF_snoc, lenA_some hf])
      have hu : 0 ≤ usedF fl (now.take i) ∧ usedF fl (now.take i) ≤ 0 + 16384 * ((now.take i).length : Int) := usedF_bd HK.out (now.take i) 0 (Int.le_refl _)
      rw [List.length_take, Nat.min_eq_left (by omega)] at hu
      have hcb := cnt_bd (n := (f.now.length : Int)) (by have := HL.out; omega)
      have hs := HS.out p hpm
      obtain ⟨ad, rfl, sy⟩ := Kd.at_string (Kd.C_below (Kd.R_reads' HV.out).2.2 HW.out) (i : Int) (by omega) (by rw [List.length_map]; omega)
      simp only [Int.toNat_natCast] at sy
      rw [show rdOf ByteArray.empty (now.map (·.1)) (i : Int) = p.1 by unfold rdOf; rw [Int.toNat_natCast, hp]; simp [List.getD_eq_getElem?_getD, List.getElem?_eq_getElem hlt]] at sy
      have HF := Aside0.mk hf
      have HS2 := Aside0.mk hs
      obtain ⟨u, hu0⟩ : ∃ u, u = usedF fl (now.take i) := ⟨_, rfl⟩
      obtain ⟨cf, hcf⟩ : ∃ cf, cf = cnt (f.now.length : Int) := ⟨_, rfl⟩
      have hub : 0 ≤ u ∧ u ≤ 16384 * (i : Int) := by rw [hu0]; exact ⟨hu.1, by have := hu.2; omega⟩
      obtain ⟨hu1, hu2⟩ := hub
      rw [← hcf] at HU hcb
      rw [← hu0] at HU ⊢
      obtain ⟨hc1, hc2⟩ := hcb
      have HCF := Aside0.mk hcf
      clear hp hpm hT hf hu hs hu0 hcf
      go_wp2_with (go_at_call 109; refine (sectors_some b y g gd mn ms vo N now safe ops mf M fl next room fuse armed dead _ ((H.out.below HB.out).below HW.out) p.1 HS2.out p.2 hid0 hid1 f HN.out HF.out HL.out).mono ?_; rw [← HCF.out]; rintro e w2 ⟨rfl, rfl⟩)
      go_roundg (now.length - (i + 1))
      case measure => have := hg.out; omega
      case rel => exact ⟨i + 1, by rw [HU.out], by go_num, hlt, ⟨rfl⟩, HW⟩
    · obtain rfl : i = now.length := by omega
      rw [List.take_length]
      go_wp2_with fail
      go_ret
      exact ⟨rfl, below_step HB.out HW.out⟩
/-- Whether there is room for a file of a size, in the place of one. -/
def hasF (fl : List FR) (now : List DN) (room : Int) (len size : Int) : Bool := decide (cnt size - cnt len ≤ 0) || decide (usedF fl now + (cnt size - cnt len) ≤ room)
set_option maxHeartbeats 1000000 in
set_option maxRecDepth 100000 in
theorem has_any (b : Nat) (y : Nat → Prop) (g gd mn ms : Nat) (vo : Value) (N : Nat) (now safe : List DN) (ops : List DOp) (mf M : Nat) (fl : List FR) (next room fuse : Int) (armed dead : Bool) (w : World) (h : DK w b y g gd mn ms vo N now safe ops mf M fl next room fuse armed dead) (hk : KG now fl) (hr : Rising now) (hN : N ≤ 1000000) (hln : now.length ≤ 100000) (hsz : ∀ p ∈ now, p.1.size ≤ maxLen) (p : FR) (hp : p ∈ fl) (size : Int) (hs0 : size ≤ 2097152) (hr0 : 0 ≤ room) : Calls Try.prog 106 #[.pointer (some ⟨g, 0, none⟩), .pointer (some ⟨p.g, 0, none⟩), .int .i64 size] w fun e w' => e = .returned (.bool (hasF fl now room p.now.length size)) ∧ Below w.heap.size w w' := by
  have s3 := (blk_cell h.hb 3).trans (rfl : _ = some (Value.int .i64 room))
  have hl := (hk.len p hp).1
  have hcs : 0 ≤ cnt size ∧ cnt size ≤ 32768 := by unfold cnt; split <;> omega
  have hcl := cnt_bd (n := (p.now.length : Int)) (by omega)
  have hub : 0 ≤ usedF fl now ∧ usedF fl now ≤ 0 + 16384 * (now.length : Int) := usedF_bd hk now 0 (Int.le_refl _)
  obtain ⟨u, hu0⟩ : ∃ u, u = usedF fl now := ⟨_, rfl⟩
  have hub2 : 0 ≤ u ∧ u ≤ 16384 * (now.length : Int) := by rw [hu0]; exact ⟨hub.1, by have := hub.2; omega⟩
  obtain ⟨hu1, hu2⟩ := hub2
  have HU := Aside0.mk (fun W hW => used_any b y g gd mn ms vo N now safe ops mf M fl next room fuse armed dead W hW hk hr hN hln hsz)
  rw [← hu0] at HU
  unfold hasF
  rw [← hu0]
  have HF := Aside0.mk (h.hf.hf p hp)
  have H := Aside0.mk h
  obtain ⟨cs, hcs0⟩ : ∃ c, c = cnt size := ⟨_, rfl⟩
  obtain ⟨cl, hcl0⟩ : ∃ c, c = cnt (p.now.length : Int) := ⟨_, rfl⟩
  rw [← hcs0] at hcs ⊢
  rw [← hcl0] at hcl ⊢
  have HCS := Aside0.mk hcs0
  have HCL := Aside0.mk hcl0
  obtain ⟨q1, q2⟩ := hcs
  obtain ⟨q3, q4⟩ := hcl
  clear h hk hr hsz hub hu0 hcs0 hcl0
  by_cases hm : cs - cl ≤ 0
  · have hd := decide_eq_true hm
    go_enter Try.func106, Try.ntmps106
    go_wp2_with (first
      | (go_at_call 40; refine (flen_any b p.g _ _ _ _ _ _ _ _ HF.out).mono ?_; rintro e w2 ⟨rfl, rfl⟩)
      | (go_at_call 18; refine (count_any _ _ (by omega)).mono ?_; (first | rw [← HCS.out] | rw [← HCL.out]); rintro e w3 ⟨rfl, rfl⟩))
    go_quiet (fail)
    go_wp2_with fail
    go_ret
    exact ⟨by simp [hm], pw_below_drewN (Below.refl _ _) _⟩
  · have hd := decide_eq_false hm
    go_enter Try.func106, Try.ntmps106
    go_wp2_with (first
      | (go_at_call 40; refine (flen_any b p.g _ _ _ _ _ _ _ _ HF.out).mono ?_; rintro e w2 ⟨rfl, rfl⟩)
      | (go_at_call 18; refine (count_any _ _ (by omega)).mono ?_; (first | rw [← HCS.out] | rw [← HCL.out]); rintro e w3 ⟨rfl, rfl⟩))
    go_region_held3 (fun w' => w'.cell? ⟨g, 3, none⟩ = some (.int .i64 room)) (first | with_reducible exact s3 | exact s3) (first | (go_at_call 83; refine (HU.out _ (H.out.below (below_drew1 (Below.refl _ _)))).mono ?_; rintro e w5 ⟨rfl, hb⟩; replace s3 := pw_cell_below hb s3; have HB := Aside0.mk hb; clear hb))
    all_goals
      go_wp2_with fail
      go_ret
      exact ⟨by rw [wrapI (by omega) (by omega), hd, Bool.false_or]; rfl, below_step (below_drew1 (Below.refl _ _)) HB.out⟩
end Go.Proofs.Ytpnbjpkdbiiogaa
/- The disk: Create. -/
namespace Go.Proofs.Ytpnbjpkdbiiogaa
set_option linter.unusedVariables false
open Go.RowKit Go.Maps Go.Proofs.YtpnbjpkdbiiogaaW.PrintWords
attribute [local go_sem] mx2 mn2 mxTwo mnTwo

theorem mv_run {w : World} {P : Program} {k e t : TypeId} {b n : Nat} {f : Lit → Option Value} (h : MV w P k b n f) (K : Keyed P k) (ht : P.underlying t = some (.map k e)) (hn : n < maxLen) {key : Value} {kl : Lit} (hkey : keyOf P k key = some kl) (val : Value) :
    ∃ w', (Instr.mapUpdate t (.map (some b)) key val).run P w = .ok () w' ∧ MV w' P k b (n + 1) (upd f kl (some val)) ∧ w.mapTurned w' b := by
  obtain ⟨D, h1, h2⟩ := h
  obtain ⟨w', hrun, r1, r2⟩ := h1.store K ht hn (val := val) (d := .held val) (ps := []) hkey rfl
  exact ⟨w', hrun, ⟨_, r1, h2.put h1.isMap (key_lit hkey) val⟩, r2⟩
section
variable {W W1 : World} {b g gd mn ms N N' mf M : Nat} {y : Nat → Prop} {vo vo' : Value} {now now' safe : List DN} {ops ops' : List DOp} {fl : List FR} {next room fuse : Int} {armed dead : Bool}
/-- The directory is turned. -/
theorem DK.dir (h : DK W b y g gd mn ms vo N now safe ops mf M fl next room fuse armed dead) (hd : DI W1 b gd mn ms vo' N' now' safe ops') (hk : Keep3 W W1 gd (some mn) vo.ownBlock) : DK W1 b y g gd mn ms vo' N' now' safe ops' mf M fl next room fuse armed dead := by
  have hvo : ∀ k, vo.ownBlock = some k → ∃ cells, W.heap[k]? = some (.cells cells 149 (0, 0)) := fun k hk => own_typed h.hd.ho.2.choose_spec.1 k hk
  have hty : ∀ (k : Nat) (cs : Array Value) (T : TypeId), T ≠ 88 → T ≠ 149 → W.heap[k]? = some (.cells cs T (0, 0)) → W1.heap[k]? = W.heap[k]? := fun k cs T h1 h2 hkk =>
    hk.2 k (blk_lt hkk) (blk_ne hkk h.hd.hb h1) (fun e => h.hd.hn.ne hkk (by injection e with e; exact e.symm)) (fun e => by
      obtain ⟨c2, hc2⟩ := hvo k e.symm
      rw [hkk] at hc2
      injection hc2 with hc2
      injection hc2 with _ hc3
      exact h2 hc3)
  refine ⟨(hty g _ _ (by decide) (by decide) h.hb).trans h.hb, hd, h.hm.move (hk.2 mf h.hm.lt (h.hm.ne h.hd.hb) (fun e => h.n1 (by injection e)) (fun e => ?_)), ⟨fun p hp => ?_, h.hf.ap, fun k hkk => h.hf.hy k (Nat.le_trans hk.1 hkk)⟩, h.hg, h.hmf, h.n1, h.n2⟩
  · obtain ⟨c2, hc2⟩ := hvo mf e.symm
    exact h.hm.ne hc2 rfl
  · have hp1 := h.hf.hf p hp
    exact hp1.move (hty p.g _ _ (by decide) (by decide) hp1.hb) (fun k hx _ ⟨cs, T, hT, hc⟩ => ⟨hty k cs T (by rcases hT with rfl | rfl <;> decide) (by rcases hT with rfl | rfl <;> decide) hc, hx⟩)
/-- A new file is laid into the map. -/
theorem DK.addFile {W8 : World} (h : DK W b y g gd mn ms vo N now safe ops mf M fl next room fuse armed dead) (hb : Below W.heap.size W W8) (hfi : FI W8 b W.heap.size (fun _ => True) (.slice none 0 0) (.slice none 0 0) (.slice none 0 0) [] [] []) (hnx : ∀ p ∈ fl, p.id < next)
    (hm : MV W1 Try.prog 3 mf (M + 1) (upd (filesF fl) (.int .i64 next) (some (.pointer (some ⟨W.heap.size, 0, none⟩))))) (ht : W8.mapTurned W1 mf) :
    DK W1 b y g gd mn ms vo N now safe ops mf (M + 1) (fl ++ [⟨next, W.heap.size, .slice none 0 0, .slice none 0 0, .slice none 0 0, [], [], []⟩]) next room fuse armed dead ∧ Below b W W1 := by
  have h8 := h.below hb
  have hg := ht.grown
  have hne : ∀ (k : Nat) (cs : Array Value) (T : TypeId), W8.heap[k]? = some (.cells cs T (0, 0)) → W1.heap[k]? = W8.heap[k]? := fun k cs T hk => hg.block k (blk_lt hk) (fun e => h8.hm.ne hk (by injection e with e; exact e.symm))
  have hno : fileAt fl next = none := by
    unfold fileAt
    rw [List.find?_eq_none]
    intro p hp
    have := hnx p hp
    simp
    omega
  have hbw : b ≤ W.heap.size := Nat.le_trans h.hg (Nat.le_of_lt (blk_lt h.hb))
  refine ⟨⟨(hne g _ _ h8.hb).trans h8.hb, ?_, ?_, ⟨fun p hp => ?_, ?_, fun k hkk => h.hf.hy k (Nat.le_trans (Nat.le_trans hb.size hg.size) hkk)⟩, h.hg, h.hmf, h.n1, h.n2⟩, (hb.mono hbw).trans ((Below.refl b W8).grown hg (Nat.le_trans hbw hb.size) (fun k e => by cases e; exact h.hmf))⟩
  · exact h8.hd.move (hne gd _ _ h8.hd.hb) (hg.block mn h8.hd.hn.lt (fun e => h.n1 (by injection e with e; exact e.symm))) (hg.block ms h8.hd.hs.lt (fun e => h.n2 (by injection e with e; exact e.symm))) (fun k _ ⟨cs, hc⟩ => hne k cs _ hc)
  · rw [filesF_snoc fl _ hno]
    exact hm
  · rcases List.mem_append.1 hp with hp | hp
    · have hp1 := h8.hf.hf p hp
      refine hp1.move (hne p.g _ _ hp1.hb) (fun k hx _ ⟨cs, T, hT, hc⟩ => ⟨hne k cs T hc, apx.mk hx.1 (fun q hq hqg => ?_)⟩)
      rcases List.mem_append.1 hq with hq | hq
      · exact hx.2 q hq hqg
      · rw [List.mem_singleton] at hq
        subst hq
        simp [Value.ownBlock]
    · rw [List.mem_singleton] at hp
      subst hp
      exact ⟨(hne _ _ _ hfi.hb).trans hfi.hb, Kd.R_nil _ _ _ _ _, Kd.R_nil _ _ _ _ _, Kd.R_nil _ _ _ _ _, hfi.hg⟩
  · rw [List.pairwise_append]
    refine ⟨h.hf.ap, by simp, fun p hp q hq => ?_⟩
    rw [List.mem_singleton] at hq
    subst hq
    have h1 := hnx p hp
    have h2 := blk_lt (h.hf.hf p hp).hb
    exact ⟨by show p.id ≠ next; omega, by show p.g ≠ W.heap.size; omega⟩
end
set_option maxHeartbeats 1000000 in
set_option maxRecDepth 100000 in
theorem kcreate_ok (b : Nat) (y : Nat → Prop) (g gd mn ms : Nat) (vo : Value) (N : Nat) (now safe : List DN) (ops : List DOp) (mf M : Nat) (fl : List FR) (next room fuse : Int) (armed dead : Bool) (w : World) (h : DK w b y g gd mn ms vo N now safe ops mf M fl next room fuse armed dead) (h0 : 0 ≤ fuse) (h1 : fuse ≤ 9223372036854775807) (hN : N < 1000000) (hM : M < 1000000) (hlo : ops.length ≤ 100000) (hn0 : 0 ≤ next) (hn1 : next ≤ 1000000) (hnx : ∀ p ∈ fl, p.id < next)
    (s sb : ByteArray) (hs : s.size ≤ maxLen) (hc : (chg fuse armed dead).1 = 0) (hd : doCode now ⟨0, s, sb, next⟩ = 0) :
    Calls Try.prog 62 #[.pointer (some ⟨g, 0, none⟩), .string s] w fun e w' => e = .returned (.int .i64 0) ∧ ∃ vo' g', DK w' b y g gd mn ms vo' (N + 1) (didL now ⟨0, s, sb, next⟩) safe (ops ++ [nrm ⟨0, s, sb, next⟩]) mf (M + 1) (fl ++ [⟨next, g', .slice none 0 0, .slice none 0 0, .slice none 0 0, [], [], []⟩]) (next + 1) room (chg fuse armed dead).2.1 armed (chg fuse armed dead).2.2 ∧ Below b w w' := by
  have hbw : b ≤ w.heap.size := Nat.le_trans h.hg (Nat.le_of_lt (blk_lt h.hb))
  obtain ⟨fu, hfu⟩ : ∃ x, x = (chg fuse armed dead).2.1 := ⟨_, rfl⟩
  obtain ⟨de, hde⟩ : ∃ x, x = (chg fuse armed dead).2.2 := ⟨_, rfl⟩
  have HCH := Aside0.mk (change_any b y g gd mn ms vo N now safe ops mf M fl next room fuse armed dead w h h0 h1)
  rw [hc, ← hfu, ← hde] at HCH
  rw [← hfu, ← hde]
  have HNX := Aside0.mk hnx
  have HNOW := Aside0.mk (show doNow now ⟨0, s, sb, next⟩ = didL now ⟨0, s, sb, next⟩ ∧ doOpsI now ops ⟨0, s, sb, next⟩ = ops ++ [nrm ⟨0, s, sb, next⟩] by unfold doNow doOpsI; rw [if_pos hd, if_pos hd]; exact ⟨rfl, rfl⟩)
  have HD := Aside0.mk hd
  have HKN := Aside0.mk (keyOf_int_mk (P := Try.prog) Try.underlying3 (WalkArith.wf_i64 (by omega) : (Lit.int .i64 next).wf = true))
  clear h hnx hd hfu hde hc
  go_enter Try.func62, Try.ntmps62
  go_wp2_with (go_at_call 103; refine HCH.out.mono ?_; rintro e w1 ⟨rfl, hk1, hb1, hl1⟩; have H := Aside0.mk hk1; have HL := Aside0.mk hl1; clear hk1 hb1 hl1)
  have s0 := (blk_cell H.out.hb 0).trans (rfl : _ = some (Value.pointer (some ⟨gd, 0, none⟩)))
  have s2 := (blk_cell H.out.hb 2).trans (rfl : _ = some (Value.int .i64 next))
  clear HCH
  go_region_held3 (fun w' => w'.cell? ⟨g, 0, none⟩ = some (.pointer (some ⟨gd, 0, none⟩)) ∧ w'.cell? ⟨g, 2, none⟩ = some (.int .i64 next)) (first | with_reducible exact ⟨s0, s2⟩ | exact ⟨s0, s2⟩) (first | (go_at_call 56; refine (dcreate_any b gd mn ms N vo now safe ops _ (H.out.below (below_drew1 (Below.refl _ _))).hd hN hlo s sb next hs).mono ?_; rw [HD.out, HNOW.out.1, HNOW.out.2]; rintro e w2 ⟨rfl, vo', hd2, hv2, hk2, hl2⟩; have h2 := (H.out.below (below_drew1 (Below.refl _ _))).dir hd2 hk2; replace s0 := (blk_cell h2.hb 0).trans (rfl : _ = some (Value.pointer (some ⟨gd, 0, none⟩))); replace s2 := (blk_cell h2.hb 2).trans (rfl : _ = some (Value.int .i64 next)); have hl3 := (HL.out.trans (below_drew1 (Below.refl _ _))).trans hl2; clear H HL; have H := Aside0.mk h2; have HL := Aside0.mk hl3; clear hd2 hv2 hk2 hl2 h2 hl3))
  all_goals
    go_wp2_with fail
    have s1 := (blk_cell H.out.hb 1).trans (rfl : _ = some (Value.map (some mf)))
    go_region_held3 (fun w' => w'.cell? ⟨g, 1, none⟩ = some (.map (some mf)) ∧ w'.cell? ⟨g, 2, none⟩ = some (.int .i64 next)) (first | with_reducible exact ⟨s1, s2⟩ | with_reducible exact ⟨s1b, s2b⟩ | exact ⟨s1, s2⟩) (first | (go_at_call 30; refine (fnew_any b (fun _ => True) _ (Nat.le_trans (H.out.below (below_drew1 (Below.refl _ _))).hg (Nat.le_of_lt (blk_lt (H.out.below (below_drew1 (Below.refl _ _))).hb)))).mono ?_; rintro e w3 ⟨rfl, hf3, hb3⟩; have h3 := (H.out.below (below_drew1 (Below.refl _ _))).below hb3; replace s1 := (blk_cell h3.hb 1).trans (rfl : _ = some (Value.map (some mf))); replace s2 := (blk_cell h3.hb 2).trans (rfl : _ = some (Value.int .i64 next)); obtain ⟨w4, hrun, hm4, ht4⟩ := mv_run h3.hm lawI Try.underlying159 (by unfold maxLen; omega) HKN.out (.pointer (some ⟨w2.heap.size, 0, none⟩)); have hfin := (H.out.below (below_drew1 (Below.refl _ _))).addFile hb3 hf3 HNX.out hm4 ht4; have s1b := (blk_cell hfin.1.hb 1).trans (rfl : _ = some (Value.map (some mf))); have s2b := (blk_cell hfin.1.hb 2).trans (rfl : _ = some (Value.int .i64 next)); have f2b := blk_frozen hfin.1.hb 2; have HF := Aside0.mk hfin; clear hfin hm4 ht4 hf3 hb3 h3))
    all_goals
      go_wp2_with fail
      go_ret
      have hd := HF.out.1
      exact ⟨rfl, _, _, hd.own (blk_put hd.hb 2 _ rfl) (fun k hk => Below.heap_setCell _ _ _ k hk), ((HL.out.trans (below_drew1 (Below.refl _ _))).trans HF.out.2).setCell (p := ⟨g, 2, none⟩) hd.hg _⟩
end Go.Proofs.Ytpnbjpkdbiiogaa
/- The disk: Write. -/
namespace Go.Proofs.Ytpnbjpkdbiiogaa
set_option linter.unusedVariables false
open Go.RowKit Go.Maps Go.Proofs.YtpnbjpkdbiiogaaW.PrintWords
attribute [local go_sem] mx2 mn2 mxTwo mnTwo

theorem fl_uniq : ∀ {fl : List FR}, fl.Pairwise (fun p q => p.id ≠ q.id ∧ p.g ≠ q.g) → ∀ {p q : FR}, p ∈ fl → q ∈ fl → (p.id = q.id ∨ p.g = q.g) → p = q
  | [], _, p, q, hp, _, _ => by simp at hp
  | a :: t, h, p, q, hp, hq, he => by
    rw [List.pairwise_cons] at h
    rcases List.mem_cons.1 hp with e1 | hp'
    · rcases List.mem_cons.1 hq with e2 | hq'
      · rw [e1, e2]
      · have := h.1 q hq'
        rw [← e1] at this
        rcases he with he | he
        · exact absurd he this.1
        · exact absurd he this.2
    · rcases List.mem_cons.1 hq with e2 | hq'
      · have := h.1 p hp'
        rw [← e2] at this
        rcases he with he | he
        · exact absurd he.symm this.1
        · exact absurd he.symm this.2
      · exact fl_uniq h.2 hp' hq' he
theorem mem_set {fl : List FR} {p' q' : FR} (h : q' ∈ setFile fl p') : q' = p' ∨ (q' ∈ fl ∧ q'.id ≠ p'.id) := by
  unfold setFile at h
  obtain ⟨q, hq, rfl⟩ := List.mem_map.1 h
  by_cases e : q.id = p'.id
  · rw [if_pos e]
    exact .inl rfl
  · rw [if_neg e]
    exact .inr ⟨hq, e⟩
section
variable {W W1 : World} {b g gd mn ms N mf M : Nat} {y : Nat → Prop} {vo : Value} {now safe : List DN} {ops : List DOp} {fl : List FR} {next room fuse : Int} {armed dead : Bool}
theorem fvo_typed (h : FsI W b y fl) {p : FR} (hp : p ∈ fl) : ∀ k, p.vo.ownBlock = some k → ∃ cells, W.heap[k]? = some (.cells cells 141 (0, 0)) := fun k hk => own_typed (h.hf p hp).ho.2.choose_spec.1 k hk
theorem apx_fresh (h : FsI W b y fl) {p : FR} : ∀ k, W.heap.size ≤ k → apx y fl p k := fun k hk => apx.mk (h.hy k hk) fun q hq _ e => by
  obtain ⟨cs, hc⟩ := fvo_typed h hq k e.symm
  have := blk_lt hc
  omega
/-- A file is turned. -/
theorem DK.file (h : DK W b y g gd mn ms vo N now safe ops mf M fl next room fuse armed dead) {p : FR} (hp : p ∈ fl) (hk : KeepBut W W1 p.g p.vo.ownBlock) {vn' vs' vo' : Value} {now' safe' : List Int} {ops' : List FOp} (hfi : FI W1 b p.g (apx y fl p) vn' vs' vo' now' safe' ops') (hv : vo'.ownBlock = p.vo.ownBlock ∨ vo'.ownBlock = none ∨ ∃ k, vo'.ownBlock = some k ∧ W.heap.size ≤ k) :
    DK W1 b y g gd mn ms vo N now safe ops mf M (setFile fl ⟨p.id, p.g, vn', vs', vo', now', safe', ops'⟩) next room fuse armed dead := by
  have hpf := h.hf.hf p hp
  have hty : ∀ (k : Nat) (cs : Array Value) (T : TypeId), T ≠ 137 → T ≠ 141 → W.heap[k]? = some (.cells cs T (0, 0)) → W1.heap[k]? = W.heap[k]? := fun k cs T h1 h2 hkk =>
    hk.2 k (blk_lt hkk) (blk_ne hkk hpf.hb h1) (fun e => by
      obtain ⟨c2, hc2⟩ := fvo_typed h.hf hp k e.symm
      rw [hkk] at hc2
      injection hc2 with hc2
      injection hc2 with _ hc3
      exact h2 hc3)
  have hmp : ∀ {P : Program} {kt : TypeId} {m n : Nat} {f : Lit → Option Value}, MV W P kt m n f → W1.heap[m]? = W.heap[m]? := fun {P kt m n f} hm => hk.2 m hm.lt (hm.ne hpf.hb) (fun e => by
    obtain ⟨c2, hc2⟩ := fvo_typed h.hf hp m e.symm
    exact hm.ne hc2 rfl)
  have hid : ∀ q ∈ fl, q.id = p.id → q.g = p.g := fun q hq e => by rw [fl_uniq h.hf.ap hq hp (.inl e)]
  refine ⟨(hty g _ _ (by decide) (by decide) h.hb).trans h.hb, h.hd.move (hty gd _ _ (by decide) (by decide) h.hd.hb) (hmp h.hd.hn) (hmp h.hd.hs) (fun k _ ⟨cs, hc⟩ => hty k cs _ (by decide) (by decide) hc), ?_, ⟨fun q' hq' => ?_, ?_, fun k hkk => h.hf.hy k (Nat.le_trans hk.1 hkk)⟩, h.hg, h.hmf, h.n1, h.n2⟩
  · rw [filesF_set fl ⟨p.id, p.g, vn', vs', vo', now', safe', ops'⟩ hid]
    exact h.hm.move (hmp h.hm)
  · rcases mem_set hq' with rfl | ⟨hq, hne⟩
    · refine hfi.move rfl (fun k hx _ _ => ⟨rfl, apx.mk hx.1 (fun q'' hq'' hg'' => ?_)⟩)
      rcases mem_set hq'' with rfl | ⟨hq2, _⟩
      · exact absurd rfl hg''
      · exact hx.2 q'' hq2 hg''
    · have hqg : q'.g ≠ p.g := fun e => hne (by rw [fl_uniq h.hf.ap hq hp (.inr e)])
      have hqf := h.hf.hf q' hq
      refine hqf.move (hk.2 q'.g (blk_lt hqf.hb) hqg (fun e => ?_)) (fun k hx hlt ⟨cs, T, hT, hc⟩ => ⟨hk.2 k hlt (blk_ne hc hpf.hb (by rcases hT with rfl | rfl <;> decide)) (hx.2 p hp (Ne.symm hqg)), apx.mk hx.1 (fun q'' hq'' hg'' => ?_)⟩)
      · obtain ⟨c2, hc2⟩ := fvo_typed h.hf hp q'.g e.symm
        have h3 := hqf.hb.symm.trans hc2
        simp at h3
      · rcases mem_set hq'' with rfl | ⟨hq2, _⟩
        · rcases hv with e | e | ⟨j, e, hj⟩
          · show some k ≠ vo'.ownBlock
            rw [e]
            exact hx.2 p hp (Ne.symm hqg)
          · show some k ≠ vo'.ownBlock
            rw [e]
            simp
          · show some k ≠ vo'.ownBlock
            rw [e]
            intro e2
            injection e2 with e2
            omega
        · exact hx.2 q'' hq2 hg''
  · unfold setFile
    rw [List.pairwise_map]
    refine h.hf.ap.imp_of_mem (fun {a c} ha hc hac => ?_)
    have e1 : ∀ q ∈ fl, (if q.id = p.id then (⟨p.id, p.g, vn', vs', vo', now', safe', ops'⟩ : FR) else q).id = q.id ∧ (if q.id = p.id then (⟨p.id, p.g, vn', vs', vo', now', safe', ops'⟩ : FR) else q).g = q.g := fun q hq => by
      by_cases e : q.id = p.id
      · rw [if_pos e]
        exact ⟨e.symm, (hid q hq e).symm⟩
      · rw [if_neg e]
        exact ⟨rfl, rfl⟩
    obtain ⟨a1, a2⟩ := e1 a ha
    obtain ⟨c1, c2⟩ := e1 c hc
    exact ⟨by rw [a1, c1]; exact hac.1, by rw [a2, c2]; exact hac.2⟩
end
set_option maxHeartbeats 1000000 in
set_option maxRecDepth 100000 in
theorem kwrite_space (b : Nat) (y : Nat → Prop) (g gd mn ms : Nat) (vo : Value) (N : Nat) (now safe : List DN) (ops : List DOp) (mf M : Nat) (fl : List FR) (next room fuse : Int) (armed dead : Bool) (w : World) (h : DK w b y g gd mn ms vo N now safe ops mf M fl next room fuse armed dead) (hk : KG now fl) (hr : Rising now) (hN : N ≤ 1000000) (hln : now.length ≤ 100000) (hsz : ∀ p ∈ now, p.1.size ≤ maxLen) (h0 : 0 ≤ fuse) (h1 : fuse ≤ 9223372036854775807) (hro : 0 ≤ room) (hc : (chg fuse armed dead).1 = 0) (s : ByteArray) (hs : s.size ≤ maxLen) (id : Int) (p : FR) (hn : getN now s = some id) (hp : fileAt fl id = some p) (k : Nat) (A : Option Addr) (n c : Nat) (hk1 : k ≤ 1048576) (hk2 : n + k ≤ 1048576) (hn0 : 0 < n) (hh : hasF fl now room p.now.length ((k + n : Nat) : Int) = false) :
    Calls Try.prog 68 #[.pointer (some ⟨g, 0, none⟩), .string s, .int .i64 (k : Int), .slice A n c] w fun e w' => e = .returned (.int .i64 20) ∧ DK w' b y g gd mn ms vo N now safe ops mf M fl next room (chg fuse armed dead).2.1 armed (chg fuse armed dead).2.2 ∧ Below b w w' := by
  have HH := Aside0.mk hh
  clear hh
  obtain ⟨hi0, hi1, _⟩ := hk.id _ (getN_mem hn)
  have hpm := (fileAt_mem hp).1
  obtain ⟨hpl, hpo⟩ := hk.len p hpm
  obtain ⟨fu, hfu⟩ : ∃ x, x = (chg fuse armed dead).2.1 := ⟨_, rfl⟩
  obtain ⟨de, hde⟩ : ∃ x, x = (chg fuse armed dead).2.2 := ⟨_, rfl⟩
  have HCH := Aside0.mk (change_any b y g gd mn ms vo N now safe ops mf M fl next room fuse armed dead w h h0 h1)
  rw [hc, ← hfu, ← hde] at HCH
  rw [← hfu, ← hde]
  have HOF := Aside0.mk (fun W (hW : DK W b y g gd mn ms vo N now safe ops mf M fl next room fu armed de) => of_some b y g gd mn ms vo N now safe ops mf M fl next room fu armed de W hW s hs id hi0 hi1 p hn hp)
  have HHAS := Aside0.mk (fun W (hW : DK W b y g gd mn ms vo N now safe ops mf M fl next room fu armed de) => has_any b y g gd mn ms vo N now safe ops mf M fl next room fu armed de W hW hk hr hN hln hsz p hpm)
  have HPM := Aside0.mk hpm
  have hbw : b ≤ w.heap.size := Nat.le_trans h.hg (Nat.le_of_lt (blk_lt h.hb))
  clear h hk hr hsz hn hp hpm hfu hde hc
  go_enter Try.func68, Try.ntmps68
  go_wp2_with (first | (go_at_call 103; refine HCH.out.mono ?_; rintro e w1 ⟨rfl, hk1', hb1, hl1⟩; have H := Aside0.mk hk1'; have HL := Aside0.mk hl1; have HKG := Aside0.mk (show ∀ j, j < w.heap.size → j ≠ g → w1.heap[j]? = w.heap[j]? from fun j _ hj => hb1 j hj); clear hk1' hb1 hl1 HCH) | (go_at_call 105; refine (HOF.out _ H.out).mono ?_; rintro e w2 ⟨rfl, rfl⟩; clear HOF) | (go_at_call 106; refine (HHAS.out _ H.out ((k + n : Nat) : Int) (by omega) hro).mono ?_; rw [HH.out]; rintro e w3 ⟨rfl, hb⟩; have h3 := H.out.below hb; have hl3 := HL.out.trans (hb.mono (Nat.le_trans hbw HL.out.size)); clear H HL; have H := Aside0.mk h3; have HL := Aside0.mk hl3; clear h3 hl3 hb))
  go_ret
  exact ⟨rfl, H.out, HL.out⟩
set_option maxHeartbeats 1000000 in
set_option maxRecDepth 100000 in
theorem kwrite_ok (b : Nat) (y : Nat → Prop) (g gd mn ms : Nat) (vo : Value) (N : Nat) (now safe : List DN) (ops : List DOp) (mf M : Nat) (fl : List FR) (next room fuse : Int) (armed dead : Bool) (w : World) (h : DK w b y g gd mn ms vo N now safe ops mf M fl next room fuse armed dead) (hk : KG now fl) (hr : Rising now) (hN : N ≤ 1000000) (hln : now.length ≤ 100000) (hsz : ∀ p ∈ now, p.1.size ≤ maxLen) (h0 : 0 ≤ fuse) (h1 : fuse ≤ 9223372036854775807) (hro : 0 ≤ room) (hc : (chg fuse armed dead).1 = 0) (s : ByteArray) (hs : s.size ≤ maxLen) (id : Int) (p : FR) (hn : getN now s = some id) (hp : fileAt fl id = some p) (k : Nat) (A : Option Addr) (n c : Nat) (hk1 : k ≤ 1048576) (hk2 : n + k ≤ 1048576) (l : List Int) (hll : l.length = n) (hnc : n ≤ c) (hst : ∀ W', (∀ j, j < w.heap.size → j ≠ g → j ≠ p.g → some j ≠ p.vo.ownBlock → W'.heap[j]? = w.heap[j]?) → Below b w W' → Kd.C (Kd.int .u8) W' A n l) (hh : n = 0 ∨ hasF fl now room p.now.length ((k + n : Nat) : Int) = true) :
    Calls Try.prog 68 #[.pointer (some ⟨g, 0, none⟩), .string s, .int .i64 (k : Int), .slice A n c] w fun e w' => e = .returned (.int .i64 0) ∧ ∃ vn' vo', DK w' b y g gd mn ms vo N now safe ops mf M (setFile fl ⟨p.id, p.g, vn', p.vs, vo', (writeF (p.now, p.ops) k l).1, p.safe, (writeF (p.now, p.ops) k l).2⟩) next room (chg fuse armed dead).2.1 armed (chg fuse armed dead).2.2 ∧ (∀ j, j < w.heap.size → j ≠ g → j ≠ p.g → some j ≠ p.vo.ownBlock → w'.heap[j]? = w.heap[j]?) ∧ Below b w w' := by
  have HST := Aside0.mk hst
  clear hst
  by_cases hn0 : n = 0
  · clear hh
    obtain ⟨hi0, hi1, _⟩ := hk.id _ (getN_mem hn)
    have hpm := (fileAt_mem hp).1
    obtain ⟨hpl, hpo⟩ := hk.len p hpm
    obtain ⟨fu, hfu⟩ : ∃ x, x = (chg fuse armed dead).2.1 := ⟨_, rfl⟩
    obtain ⟨de, hde⟩ : ∃ x, x = (chg fuse armed dead).2.2 := ⟨_, rfl⟩
    have HCH := Aside0.mk (change_any b y g gd mn ms vo N now safe ops mf M fl next room fuse armed dead w h h0 h1)
    rw [hc, ← hfu, ← hde] at HCH
    rw [← hfu, ← hde]
    have HOF := Aside0.mk (fun W (hW : DK W b y g gd mn ms vo N now safe ops mf M fl next room fu armed de) => of_some b y g gd mn ms vo N now safe ops mf M fl next room fu armed de W hW s hs id hi0 hi1 p hn hp)
    have HHAS := Aside0.mk (fun W (hW : DK W b y g gd mn ms vo N now safe ops mf M fl next room fu armed de) => has_any b y g gd mn ms vo N now safe ops mf M fl next room fu armed de W hW hk hr hN hln hsz p hpm)
    have HPM := Aside0.mk hpm
    have hbw : b ≤ w.heap.size := Nat.le_trans h.hg (Nat.le_of_lt (blk_lt h.hb))
    clear h hk hr hsz hn hp hpm hfu hde hc
    go_enter Try.func68, Try.ntmps68
    subst hn0
    go_wp2_with (first | (go_at_call 103; refine HCH.out.mono ?_; rintro e w1 ⟨rfl, hk1', hb1, hl1⟩; have H := Aside0.mk hk1'; have HL := Aside0.mk hl1; have HKG := Aside0.mk (show ∀ j, j < w.heap.size → j ≠ g → w1.heap[j]? = w.heap[j]? from fun j _ hj => hb1 j hj); clear hk1' hb1 hl1 HCH) | (go_at_call 105; refine (HOF.out _ H.out).mono ?_; rintro e w2 ⟨rfl, rfl⟩; clear HOF) | (go_at_call 41; refine (fwrite_any b p.g (apx y fl p) p.vn p.vs p.vo p.now p.safe p.ops k A _ c l _ (H.out.hf.hf p HPM.out) (apx_fresh H.out.hf) hll hnc (fun W' hk' hb' => HST.out W' (fun j hj hjg hjp hjv => (hk'.2 j (Nat.lt_of_lt_of_le hj HL.out.size) hjp hjv).trans (HKG.out j hj hjg)) (HL.out.trans hb')) hk1 hk2 hpl hpo).mono ?_; rintro e w5 ⟨rfl, vn', vo', hf5, hv5, hk5, hl5⟩; have hfin := H.out.file HPM.out hk5 hf5 (by rcases hv5 with e | ⟨j, e, hj⟩; exact .inl e; exact .inr (.inr ⟨j, e, hj⟩)); have HF := Aside0.mk hfin; have HKF := Aside0.mk hk5; have HLF := Aside0.mk hl5; clear hfin hf5 hv5 hk5 hl5))
    go_ret
    exact ⟨rfl, _, _, HF.out, fun j hj hjg hjp hjv => (HKF.out.2 j (Nat.lt_of_lt_of_le hj HL.out.size) hjp hjv).trans (HKG.out j hj hjg), HL.out.trans HLF.out⟩
  · have HH := Aside0.mk (hh.resolve_left hn0)
    clear hh
    have hnp : 0 < n := by omega
    obtain ⟨hi0, hi1, _⟩ := hk.id _ (getN_mem hn)
    have hpm := (fileAt_mem hp).1
    obtain ⟨hpl, hpo⟩ := hk.len p hpm
    obtain ⟨fu, hfu⟩ : ∃ x, x = (chg fuse armed dead).2.1 := ⟨_, rfl⟩
    obtain ⟨de, hde⟩ : ∃ x, x = (chg fuse armed dead).2.2 := ⟨_, rfl⟩
    have HCH := Aside0.mk (change_any b y g gd mn ms vo N now safe ops mf M fl next room fuse armed dead w h h0 h1)
    rw [hc, ← hfu, ← hde] at HCH
    rw [← hfu, ← hde]
    have HOF := Aside0.mk (fun W (hW : DK W b y g gd mn ms vo N now safe ops mf M fl next room fu armed de) => of_some b y g gd mn ms vo N now safe ops mf M fl next room fu armed de W hW s hs id hi0 hi1 p hn hp)
    have HHAS := Aside0.mk (fun W (hW : DK W b y g gd mn ms vo N now safe ops mf M fl next room fu armed de) => has_any b y g gd mn ms vo N now safe ops mf M fl next room fu armed de W hW hk hr hN hln hsz p hpm)
    have HPM := Aside0.mk hpm
    have hbw : b ≤ w.heap.size := Nat.le_trans h.hg (Nat.le_of_lt (blk_lt h.hb))
    clear h hk hr hsz hn hp hpm hfu hde hc
    go_enter Try.func68, Try.ntmps68
    go_wp2_with (first | (go_at_call 103; refine HCH.out.mono ?_; rintro e w1 ⟨rfl, hk1', hb1, hl1⟩; have H := Aside0.mk hk1'; have HL := Aside0.mk hl1; have HKG := Aside0.mk (show ∀ j, j < w.heap.size → j ≠ g → w1.heap[j]? = w.heap[j]? from fun j _ hj => hb1 j hj); clear hk1' hb1 hl1 HCH) | (go_at_call 105; refine (HOF.out _ H.out).mono ?_; rintro e w2 ⟨rfl, rfl⟩; clear HOF) | (go_at_call 106; refine (HHAS.out _ H.out ((k + n : Nat) : Int) (by omega) hro).mono ?_; rw [HH.out]; rintro e w3 ⟨rfl, hb⟩; have h3 := H.out.below hb; have hl3 := HL.out.trans (hb.mono (Nat.le_trans hbw HL.out.size)); have hkg : ∀ j, j < w.heap.size → j ≠ g → w3.heap[j]? = w.heap[j]? := (fun j hj hjg => (hb.block j (Nat.lt_of_lt_of_le hj HL.out.size)).trans (HKG.out j hj hjg)); clear H HL HKG; have H := Aside0.mk h3; have HL := Aside0.mk hl3; have HKG := Aside0.mk hkg; clear h3 hl3 hb hkg) | (go_at_call 41; refine (fwrite_any b p.g (apx y fl p) p.vn p.vs p.vo p.now p.safe p.ops k A _ c l _ (H.out.hf.hf p HPM.out) (apx_fresh H.out.hf) hll hnc (fun W' hk' hb' => HST.out W' (fun j hj hjg hjp hjv => (hk'.2 j (Nat.lt_of_lt_of_le hj HL.out.size) hjp hjv).trans (HKG.out j hj hjg)) (HL.out.trans hb')) hk1 hk2 hpl hpo).mono ?_; rintro e w5 ⟨rfl, vn', vo', hf5, hv5, hk5, hl5⟩; have hfin := H.out.file HPM.out hk5 hf5 (by rcases hv5 with e | ⟨j, e, hj⟩; exact .inl e; exact .inr (.inr ⟨j, e, hj⟩)); have HF := Aside0.mk hfin; have HKF := Aside0.mk hk5; have HLF := Aside0.mk hl5; clear hfin hf5 hv5 hk5 hl5))
    go_ret
    exact ⟨rfl, _, _, HF.out, fun j hj hjg hjp hjv => (HKF.out.2 j (Nat.lt_of_lt_of_le hj HL.out.size) hjp hjv).trans (HKG.out j hj hjg), HL.out.trans HLF.out⟩
end Go.Proofs.Ytpnbjpkdbiiogaa
