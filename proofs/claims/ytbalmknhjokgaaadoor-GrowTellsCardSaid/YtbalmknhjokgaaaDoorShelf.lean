/-
  DERIVED: THE SHELF's CONTRACTS AT THIS DUMP, IN PLAIN WORDS (tools/lay-plain.mjs out of 'YtbalmknhjokgaaaDoorShelfSrc.lean', which tools/lay-shelf.mjs wrote): THE SAME DECLARATIONS UNDER THE SAME NAMES: 'import', 'namespace', 'open', 'def', 'theorem' AND NOTHING ELSE: no command of the shelf's: FOR A HAND-IN. Each laying: the table of numbers ('.._ren') and one theorem, a field a fact of the dump's own or the kernel's comparison; each contract: ONE APPLICATION.
-/
import Derived.Ground.NamesProg
import Derived.Shelf.Sort.Plain
import Derived.Ground.Names2Prog
import Derived.Shelf.Slices.CompactI
import Derived.Test.YtbalmknhjokgaaaDoorProg
namespace Go.Proofs
open Go.Shelf
def Tryd.laysSort_ren : Go.Shelf.Ren := ⟨fun | 189 => 150 | 125 => 164 | 257 => 176 | 128 => 199 | 129 => 200 | 294 => 210 | 295 => 211 | 296 => 212 | 297 => 213 | 298 => 214 | 299 => 215 | 216 => 216 | 300 => 217 | 301 => 218 | 328 => 238 | 329 => 233 | 330 => 234 | 331 => 239 | 332 => 240 | 215 => 137 | 343 => 254 | n => n, fun | 28 => 22 | 3 => 3 | 46 => 234 | 0 => 0 | 51 => 273 | 53 => 275 | 4 => 4 | 183 => 266 | 182 => 265 | 131 => 270 | 5 => 5 | 9 => 9 | 218 => 318 | 222 => 322 | 228 => 333 | 229 => 88 | n => n, fun | n => n⟩
theorem Tryd.laysSort : Go.Proofs.Lays.n189 Tryd.prog Tryd.laysSort_ren := {
  mixed := by kernel_rfl
  f125 := Tryd.func164.trans (congrArg some (by kernel_rfl))
  f128 := Tryd.func199.trans (congrArg some (by kernel_rfl))
  f129 := Tryd.func200.trans (congrArg some (by kernel_rfl))
  f189 := Tryd.func150.trans (congrArg some (by kernel_rfl))
  f215 := Tryd.func137.trans (congrArg some (by kernel_rfl))
  f216 := Tryd.func216.trans (congrArg some (by kernel_rfl))
  f257 := Tryd.func176.trans (congrArg some (by kernel_rfl))
  f294 := Tryd.func210.trans (congrArg some (by kernel_rfl))
  f295 := Tryd.func211.trans (congrArg some (by kernel_rfl))
  f296 := Tryd.func212.trans (congrArg some (by kernel_rfl))
  f297 := Tryd.func213.trans (congrArg some (by kernel_rfl))
  f298 := Tryd.func214.trans (congrArg some (by kernel_rfl))
  f299 := Tryd.func215.trans (congrArg some (by kernel_rfl))
  f300 := Tryd.func217.trans (congrArg some (by kernel_rfl))
  f301 := Tryd.func218.trans (congrArg some (by kernel_rfl))
  f328 := Tryd.func238.trans (congrArg some (by kernel_rfl))
  f329 := Tryd.func233.trans (congrArg some (by kernel_rfl))
  f330 := Tryd.func234.trans (congrArg some (by kernel_rfl))
  f331 := Tryd.func239.trans (congrArg some (by kernel_rfl))
  f332 := Tryd.func240.trans (congrArg some (by kernel_rfl))
  f343 := Tryd.func254.trans (congrArg some (by kernel_rfl))
  t0 := Tryd.underlying0
  a0 := Tryd.isAgg0
  z0 := Tryd.sizeOf0
  v0 := Tryd.zeroValue0
  t3 := Tryd.underlying3
  a3 := Tryd.isAgg3
  z3 := Tryd.sizeOf3
  v3 := Tryd.zeroValue3
  t4 := Tryd.underlying4
  a4 := Tryd.isAgg4
  z4 := Tryd.sizeOf4
  v4 := Tryd.zeroValue4
  t5 := Tryd.underlying5
  a5 := Tryd.isAgg5
  z5 := Tryd.sizeOf5
  v5 := Tryd.zeroValue5
  t9 := Tryd.underlying9
  a9 := Tryd.isAgg9
  z9 := Tryd.sizeOf9
  v9 := Tryd.zeroValue9
  t28 := Tryd.underlying22
  a28 := Tryd.isAgg22
  z28 := Tryd.sizeOf22
  v28 := Tryd.zeroValue22
  t46 := Tryd.underlying234
  a46 := Tryd.isAgg234
  z46 := Tryd.sizeOf234
  v46 := Tryd.zeroValue234
  t51 := Tryd.underlying273
  a51 := Tryd.isAgg273
  z51 := Tryd.sizeOf273
  v51 := Tryd.zeroValue273
  t53 := Tryd.underlying275
  a53 := Tryd.isAgg275
  z53 := Tryd.sizeOf275
  v53 := Tryd.zeroValue275
  t131 := Tryd.underlying270
  a131 := Tryd.isAgg270
  z131 := Tryd.sizeOf270
  v131 := Tryd.zeroValue270
  t182 := Tryd.underlying265
  a182 := Tryd.isAgg265
  z182 := Tryd.sizeOf265
  v182 := Tryd.zeroValue265
  t183 := Tryd.underlying266
  a183 := Tryd.isAgg266
  z183 := Tryd.sizeOf266
  v183 := Tryd.zeroValue266
  t218 := Tryd.underlying318
  a218 := Tryd.isAgg318
  z218 := Tryd.sizeOf318
  v218 := Tryd.zeroValue318
  t222 := Tryd.underlying322
  a222 := Tryd.isAgg322
  z222 := Tryd.sizeOf322
  v222 := Tryd.zeroValue322
  t228 := Tryd.underlying333
  a228 := Tryd.isAgg333
  z228 := Tryd.sizeOf333
  v228 := Tryd.zeroValue333
  t229 := Tryd.underlying88
  a229 := Tryd.isAgg88
  z229 := Tryd.sizeOf88
  v229 := Tryd.zeroValue88 }
def Tryd.laysCompact_ren : Go.Shelf.Ren := ⟨fun | 20 => 151 | n => n, fun | 22 => 22 | 3 => 3 | 4 => 4 | 0 => 0 | n => n, fun | n => n⟩
theorem Tryd.laysCompact : Go.Proofs.Lays2.n20 Tryd.prog Tryd.laysCompact_ren := {
  mixed := by kernel_rfl
  f20 := Tryd.func151.trans (congrArg some (by kernel_rfl))
  t0 := Tryd.underlying0
  a0 := Tryd.isAgg0
  z0 := Tryd.sizeOf0
  v0 := Tryd.zeroValue0
  t3 := Tryd.underlying3
  a3 := Tryd.isAgg3
  z3 := Tryd.sizeOf3
  v3 := Tryd.zeroValue3
  t4 := Tryd.underlying4
  a4 := Tryd.isAgg4
  z4 := Tryd.sizeOf4
  v4 := Tryd.zeroValue4
  t22 := Tryd.underlying22
  a22 := Tryd.isAgg22
  z22 := Tryd.sizeOf22
  v22 := Tryd.zeroValue22
  i3 := by kernel_rfl }
end Go.Proofs
