/-
  DERIVED: THE SHELF's CONTRACTS AT THIS DUMP, IN PLAIN WORDS (tools/lay-plain.mjs out of 'YtpcnoiigbmiejaaDoorShelfSrc.lean', which tools/lay-shelf.mjs wrote): THE SAME DECLARATIONS UNDER THE SAME NAMES: 'import', 'namespace', 'open', 'def', 'theorem' AND NOTHING ELSE: no command of the shelf's: FOR A HAND-IN. Each laying: the table of numbers ('.._ren') and one theorem, a field a fact of the dump's own or the kernel's comparison; each contract: ONE APPLICATION.
-/
import Derived.Shelf.Strings.SlTrimAscii
import Derived.Test.YtpcnoiigbmiejaaDoorProg
namespace Go.Proofs
open Go.Shelf
def Tryd.lays160_ren : Go.Shelf.Ren := ⟨fun | 160 => 142 | 232 => 181 | 231 => 180 | 227 => 182 | 234 => 184 | 233 => 183 | 236 => 186 | 235 => 185 | 228 => 202 | 271 => 204 | 151 => 203 | 197 => 169 | 120 => 212 | 152 => 211 | 260 => 195 | 137 => 179 | 119 => 216 | 224 => 214 | 225 => 213 | 217 => 201 | 266 => 210 | n => n, fun | 9 => 9 | 4 => 4 | 3 => 3 | 5 => 5 | 117 => 168 | 116 => 167 | 0 => 0 | 124 => 171 | 21 => 21 | 105 => 151 | 46 => 85 | 119 => 183 | 139 => 186 | 138 => 185 | n => n, fun | 3 => 0 | 4 => 1 | n => n⟩
theorem Tryd.lays160 : Go.Proofs.Lays.n160 Tryd.prog Tryd.lays160_ren := {
  mixed := by kernel_rfl
  f119 := Tryd.func216.trans (congrArg some (by kernel_rfl))
  f120 := Tryd.func212.trans (congrArg some (by kernel_rfl))
  f137 := Tryd.func179.trans (congrArg some (by kernel_rfl))
  f151 := Tryd.func203.trans (congrArg some (by kernel_rfl))
  f152 := Tryd.func211.trans (congrArg some (by kernel_rfl))
  f160 := Tryd.func142.trans (congrArg some (by kernel_rfl))
  f197 := Tryd.func169.trans (congrArg some (by kernel_rfl))
  f217 := Tryd.func201.trans (congrArg some (by kernel_rfl))
  f224 := Tryd.func214.trans (congrArg some (by kernel_rfl))
  f225 := Tryd.func213.trans (congrArg some (by kernel_rfl))
  f227 := Tryd.func182.trans (congrArg some (by kernel_rfl))
  f228 := Tryd.func202.trans (congrArg some (by kernel_rfl))
  f231 := Tryd.func180.trans (congrArg some (by kernel_rfl))
  f232 := Tryd.func181.trans (congrArg some (by kernel_rfl))
  f233 := Tryd.func183.trans (congrArg some (by kernel_rfl))
  f234 := Tryd.func184.trans (congrArg some (by kernel_rfl))
  f235 := Tryd.func185.trans (congrArg some (by kernel_rfl))
  f236 := Tryd.func186.trans (congrArg some (by kernel_rfl))
  f260 := Tryd.func195.trans (congrArg some (by kernel_rfl))
  f266 := Tryd.func210.trans (congrArg some (by kernel_rfl))
  f271 := Tryd.func204.trans (congrArg some (by kernel_rfl))
  t0 := Tryd.underlying0
  a0 := Tryd.isAgg0
  z0 := Tryd.sizeOf0
  v0 := Tryd.zeroValue0
  t3 := Tryd.underlying3
  a3 := Tryd.isAgg3
  z3 := Tryd.sizeOf3
  v3 := Tryd.zeroValue3
  t4 := Tryd.underlying4
  a4 := Tryd.isAgg4
  z4 := Tryd.sizeOf4
  v4 := Tryd.zeroValue4
  t5 := Tryd.underlying5
  a5 := Tryd.isAgg5
  z5 := Tryd.sizeOf5
  v5 := Tryd.zeroValue5
  t9 := Tryd.underlying9
  a9 := Tryd.isAgg9
  z9 := Tryd.sizeOf9
  v9 := Tryd.zeroValue9
  t21 := Tryd.underlying21
  a21 := Tryd.isAgg21
  z21 := Tryd.sizeOf21
  v21 := Tryd.zeroValue21
  t46 := Tryd.underlying85
  a46 := Tryd.isAgg85
  z46 := Tryd.sizeOf85
  v46 := Tryd.zeroValue85
  t105 := Tryd.underlying151
  a105 := Tryd.isAgg151
  z105 := Tryd.sizeOf151
  v105 := Tryd.zeroValue151
  t116 := Tryd.underlying167
  a116 := Tryd.isAgg167
  z116 := Tryd.sizeOf167
  t117 := Tryd.underlying168
  a117 := Tryd.isAgg168
  z117 := Tryd.sizeOf168
  v117 := Tryd.zeroValue168
  t119 := Tryd.underlying183
  a119 := Tryd.isAgg183
  z119 := Tryd.sizeOf183
  t124 := Tryd.underlying171
  a124 := Tryd.isAgg171
  z124 := Tryd.sizeOf171
  v124 := Tryd.zeroValue171
  t138 := Tryd.underlying185
  a138 := Tryd.isAgg185
  z138 := Tryd.sizeOf185
  v138 := Tryd.zeroValue185
  t139 := Tryd.underlying186
  a139 := Tryd.isAgg186
  z139 := Tryd.sizeOf186
  v139 := Tryd.zeroValue186
  g3 := by kernel_rfl
  g4 := by kernel_rfl }
end Go.Proofs
