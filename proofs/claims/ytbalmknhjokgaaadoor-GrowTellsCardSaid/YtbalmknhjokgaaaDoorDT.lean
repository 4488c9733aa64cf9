/- Printed by wip/gen: how the data stand in cells; facts of the program. -/
import Derived.Test.YtbalmknhjokgaaaDoorDlEq
import Derived.Test.YtbalmknhjokgaaaDoorDF
import Derived.Test.YtbalmknhjokgaaaDoorProg
namespace Go.Dl
open Go
abbrev TE : TypeId := 123

abbrev cU8 (y : Int) : List It := [iK .u8 y]
abbrev cB (y : Bool) : List It := [iB y]
abbrev cStr (y : ByteArray) : List It := [iStr y]
abbrev cEr (y : Option Int) : List It := [iEr TE y]
abbrev cNode (y : Node) : List It := [iI y.feature, iI y.cut, iI y.left, iI y.right, iB y.less, iI y.value]
abbrev cLNode (y : List Node) : List It := [iSL 6 cNode y]
abbrev cLI (y : List Int) : List It := [iSL 1 cI y]
abbrev cLLNode (y : List (List Node)) : List It := [iSL 1 cLNode y]
abbrev cGrove (y : Grove) : List It := [iI y.features, iI y.way, iSL 1 cI y.weights, iSL 1 cLNode y.trees]
abbrev cLGrove (y : List Grove) : List It := [iSL 4 cGrove y]
abbrev cLU8 (y : List Int) : List It := [iSL 1 cU8 y]
abbrev cCall (y : Call) : List It := [iI y.what, iI y.session, iI y.seq, iStr y.name, iI y.number, iI y.share, iSL 1 cU8 y.bytes]
abbrev cLCall (y : List Call) : List It := [iSL 7 cCall y]
abbrev cScore (y : Score) : List It := [iI y.value, iI y.version, iI y.index]
abbrev cLScore (y : List Score) : List It := [iSL 3 cScore y]
abbrev cAnswer (y : Answer) : List It := [iI y.number, iI y.index]
abbrev cLAnswer (y : List Answer) : List It := [iSL 2 cAnswer y]
abbrev cVersion (y : Version) : List It := [iStr y.name, iI y.number, iI y.stage, iI y.share]
abbrev cLVersion (y : List Version) : List It := [iSL 4 cVersion y]
abbrev cUse (y : Use) : List It := [iI y.feature, iI y.nodes, iI y.gain]
abbrev cLUse (y : List Use) : List It := [iSL 3 cUse y]
abbrev cSample (y : Sample) : List It := [iSL 1 cI y.row, iI y.target]
abbrev cLSample (y : List Sample) : List It := [iSL 2 cSample y]
abbrev cLB (y : List Bool) : List It := [iSL 1 cB y]
abbrev cLStr (y : List ByteArray) : List It := [iSL 1 cStr y]
abbrev cLLI (y : List (List Int)) : List It := [iSL 1 cLI y]

theorem fun122 : Go.Proofs.Tryd.prog.funcs[122]? = some Go.Proofs.Tryd.f122 := by kernel_rfl
theorem c122 : callable Go.Proofs.Tryd.prog 122 = true := by kernel_rfl
theorem fun124 : Go.Proofs.Tryd.prog.funcs[124]? = some Go.Proofs.Tryd.f124 := by kernel_rfl
theorem c124 : callable Go.Proofs.Tryd.prog 124 = true := by kernel_rfl
theorem u22 : Go.Proofs.Tryd.prog.underlying 22 = some (.slice 3) := by kernel_rfl
theorem s3 : sizeT Go.Proofs.Tryd.prog 3 = some 1 := by kernel_rfl
theorem a3 : aggB Go.Proofs.Tryd.prog 3 = some false := by kernel_rfl
theorem fun70 : Go.Proofs.Tryd.prog.funcs[70]? = some Go.Proofs.Tryd.f70 := by kernel_rfl
theorem c70 : callable Go.Proofs.Tryd.prog 70 = true := by kernel_rfl
theorem u50 : Go.Proofs.Tryd.prog.underlying 50 = some (.slice 146) := by kernel_rfl
theorem s146 : sizeT Go.Proofs.Tryd.prog 146 = some 2 := by kernel_rfl
theorem o146_0 : offT Go.Proofs.Tryd.prog 146 0 = some 0 := by kernel_rfl
theorem a22 : aggB Go.Proofs.Tryd.prog 22 = some false := by kernel_rfl
theorem o146_1 : offT Go.Proofs.Tryd.prog 146 1 = some 1 := by kernel_rfl
theorem fun41 : Go.Proofs.Tryd.prog.funcs[41]? = some Go.Proofs.Tryd.f41 := by kernel_rfl
theorem c41 : callable Go.Proofs.Tryd.prog 41 = true := by kernel_rfl
theorem fun109 : Go.Proofs.Tryd.prog.funcs[109]? = some Go.Proofs.Tryd.f109 := by kernel_rfl
theorem c109 : callable Go.Proofs.Tryd.prog 109 = true := by kernel_rfl
theorem u123 : Go.Proofs.Tryd.prog.underlying 123 = some (.int .i64) := by kernel_rfl
theorem fun66 : Go.Proofs.Tryd.prog.funcs[66]? = some Go.Proofs.Tryd.f66 := by kernel_rfl
theorem c66 : callable Go.Proofs.Tryd.prog 66 = true := by kernel_rfl
theorem fun148 : Go.Proofs.Tryd.prog.funcs[148]? = some Go.Proofs.Tryd.f148 := by kernel_rfl
theorem c148 : callable Go.Proofs.Tryd.prog 148 = true := by kernel_rfl
theorem fun98 : Go.Proofs.Tryd.prog.funcs[98]? = some Go.Proofs.Tryd.f98 := by kernel_rfl
theorem c98 : callable Go.Proofs.Tryd.prog 98 = true := by kernel_rfl
theorem a146 : aggB Go.Proofs.Tryd.prog 146 = some true := by kernel_rfl
theorem za146 : ((Go.Proofs.Tryd.prog.info? 146).bind (·.zero)).map (fun z => z.cells.toList) = some [.slice none 0 0, .int .i64 0] := by kernel_rfl
theorem zSample : ∀ w G, cellsRd w G [.slice none 0 0, .int .i64 0] (cSample (Sample.mk [] 0)) := fun _ _ => ⟨⟨none, 0, rfl, Nat.le_refl _, fun h => absurd rfl h⟩, rfl, trivial⟩
theorem u32 : Go.Proofs.Tryd.prog.underlying 32 = some (.interface #[("Error", 228)]) := by kernel_rfl
theorem fun42 : Go.Proofs.Tryd.prog.funcs[42]? = some Go.Proofs.Tryd.f42 := by kernel_rfl
theorem c42 : callable Go.Proofs.Tryd.prog 42 = true := by kernel_rfl
theorem c68 : callable Go.Proofs.Tryd.prog 68 = true := by kernel_rfl
theorem fun13 : Go.Proofs.Tryd.prog.funcs[13]? = some Go.Proofs.Tryd.f13 := by kernel_rfl
theorem c13 : callable Go.Proofs.Tryd.prog 13 = true := by kernel_rfl
theorem u4 : Go.Proofs.Tryd.prog.underlying 4 = some (.bool) := by kernel_rfl
theorem fun99 : Go.Proofs.Tryd.prog.funcs[99]? = some Go.Proofs.Tryd.f99 := by kernel_rfl
theorem c99 : callable Go.Proofs.Tryd.prog 99 = true := by kernel_rfl
theorem fun43 : Go.Proofs.Tryd.prog.funcs[43]? = some Go.Proofs.Tryd.f43 := by kernel_rfl
theorem c43 : callable Go.Proofs.Tryd.prog 43 = true := by kernel_rfl
theorem fun100 : Go.Proofs.Tryd.prog.funcs[100]? = some Go.Proofs.Tryd.f100 := by kernel_rfl
theorem c100 : callable Go.Proofs.Tryd.prog 100 = true := by kernel_rfl
theorem fun149 : Go.Proofs.Tryd.prog.funcs[149]? = some Go.Proofs.Tryd.f149 := by kernel_rfl
theorem c149 : callable Go.Proofs.Tryd.prog 149 = true := by kernel_rfl
theorem bl50 : bldL Go.Proofs.Tryd.prog 50 = some (146, [.slice none 0 0, .int .i64 0]) := by kernel_rfl
theorem i146 : infoT Go.Proofs.Tryd.prog 146 = some (2, 32, 2) := by kernel_rfl
theorem fun152 : Go.Proofs.Tryd.prog.funcs[152]? = some Go.Proofs.Tryd.f152 := by kernel_rfl
theorem c152 : callable Go.Proofs.Tryd.prog 152 = true := by kernel_rfl
theorem c150 : callable Go.Proofs.Tryd.prog 150 = true := by kernel_rfl
theorem c151 : callable Go.Proofs.Tryd.prog 151 = true := by kernel_rfl
theorem bl22 : bldL Go.Proofs.Tryd.prog 22 = some (3, [.int .i64 0]) := by kernel_rfl
theorem zI : ∀ w G, cellsRd w G [.int .i64 0] (cI 0) := fun _ _ => ⟨rfl, trivial⟩
theorem i3 : infoT Go.Proofs.Tryd.prog 3 = some (1, 8, 1) := by kernel_rfl
theorem fun101 : Go.Proofs.Tryd.prog.funcs[101]? = some Go.Proofs.Tryd.f101 := by kernel_rfl
theorem c101 : callable Go.Proofs.Tryd.prog 101 = true := by kernel_rfl
theorem fun44 : Go.Proofs.Tryd.prog.funcs[44]? = some Go.Proofs.Tryd.f44 := by kernel_rfl
theorem c44 : callable Go.Proofs.Tryd.prog 44 = true := by kernel_rfl
theorem fun102 : Go.Proofs.Tryd.prog.funcs[102]? = some Go.Proofs.Tryd.f102 := by kernel_rfl
theorem c102 : callable Go.Proofs.Tryd.prog 102 = true := by kernel_rfl
theorem fun87 : Go.Proofs.Tryd.prog.funcs[87]? = some Go.Proofs.Tryd.f87 := by kernel_rfl
theorem c87 : callable Go.Proofs.Tryd.prog 87 = true := by kernel_rfl
theorem bs28 : bldS Go.Proofs.Tryd.prog 28 = some ([.int .i64 0, .int .i64 0, .int .i64 0, .int .i64 0, .bool false, .int .i64 0], [(0, 1), (1, 1), (2, 1), (3, 1), (4, 1), (5, 1)]) := by kernel_rfl
theorem zNode : ∀ w G, cellsRd w G [.int .i64 0, .int .i64 0, .int .i64 0, .int .i64 0, .bool false, .int .i64 0] (cNode (Node.mk 0 0 0 0 false 0)) := fun _ _ => ⟨rfl, rfl, rfl, rfl, rfl, rfl, trivial⟩
theorem bl29 : bldL Go.Proofs.Tryd.prog 29 = some (28, [.int .i64 0, .int .i64 0, .int .i64 0, .int .i64 0, .bool false, .int .i64 0]) := by kernel_rfl
theorem u29 : Go.Proofs.Tryd.prog.underlying 29 = some (.slice 28) := by kernel_rfl
theorem i28 : infoT Go.Proofs.Tryd.prog 28 = some (6, 48, 6) := by kernel_rfl
theorem c45 : callable Go.Proofs.Tryd.prog 45 = true := by kernel_rfl
theorem s28 : sizeT Go.Proofs.Tryd.prog 28 = some 6 := by kernel_rfl
theorem o28_3 : offT Go.Proofs.Tryd.prog 28 3 = some 3 := by kernel_rfl
theorem fun45 : Go.Proofs.Tryd.prog.funcs[45]? = some Go.Proofs.Tryd.f45 := by kernel_rfl
theorem fun126 : Go.Proofs.Tryd.prog.funcs[126]? = some Go.Proofs.Tryd.f126 := by kernel_rfl
theorem c126 : callable Go.Proofs.Tryd.prog 126 = true := by kernel_rfl
theorem c103 : callable Go.Proofs.Tryd.prog 103 = true := by kernel_rfl
theorem fun103 : Go.Proofs.Tryd.prog.funcs[103]? = some Go.Proofs.Tryd.f103 := by kernel_rfl
theorem fun46 : Go.Proofs.Tryd.prog.funcs[46]? = some Go.Proofs.Tryd.f46 := by kernel_rfl
theorem c46 : callable Go.Proofs.Tryd.prog 46 = true := by kernel_rfl
theorem a28 : aggB Go.Proofs.Tryd.prog 28 = some true := by kernel_rfl
theorem sf28 : structF Go.Proofs.Tryd.prog 28 = some [("Feature", 3, 0), ("Cut", 3, 1), ("Left", 3, 2), ("Right", 3, 3), ("Less", 4, 4), ("Value", 3, 5)] := by kernel_rfl
theorem u3 : Go.Proofs.Tryd.prog.underlying 3 = some (.int .i64) := by kernel_rfl
theorem a4 : aggB Go.Proofs.Tryd.prog 4 = some false := by kernel_rfl
theorem eql28 (x y : Node) : EqL Go.Proofs.Tryd.prog (cNode x) (cNode y) [("Feature", 3, 0), ("Cut", 3, 1), ("Left", 3, 2), ("Right", 3, 3), ("Less", 4, 4), ("Value", 3, 5)] (eqNode x y) := .cons (by decide) a3 rfl rfl (.int u3) (.cons (by decide) a3 rfl rfl (.int u3) (.cons (by decide) a3 rfl rfl (.int u3) (.cons (by decide) a3 rfl rfl (.int u3) (.cons (by decide) a4 rfl rfl (.bool u4) (.cons (by decide) a3 rfl rfl (.int u3) (.nil))))))
theorem mixed : Go.Proofs.Tryd.prog.follows .mixedOrders = true := by kernel_rfl
theorem fun47 : Go.Proofs.Tryd.prog.funcs[47]? = some Go.Proofs.Tryd.f47 := by kernel_rfl
theorem c47 : callable Go.Proofs.Tryd.prog 47 = true := by kernel_rfl
theorem o28_0 : offT Go.Proofs.Tryd.prog 28 0 = some 0 := by kernel_rfl
theorem o28_2 : offT Go.Proofs.Tryd.prog 28 2 = some 2 := by kernel_rfl
theorem c123 : callable Go.Proofs.Tryd.prog 123 = true := by kernel_rfl
theorem fun123 : Go.Proofs.Tryd.prog.funcs[123]? = some Go.Proofs.Tryd.f123 := by kernel_rfl
theorem za28 : ((Go.Proofs.Tryd.prog.info? 28).bind (·.zero)).map (fun z => z.cells.toList) = some [.int .i64 0, .int .i64 0, .int .i64 0, .int .i64 0, .bool false, .int .i64 0] := by kernel_rfl
theorem o28_5 : offT Go.Proofs.Tryd.prog 28 5 = some 5 := by kernel_rfl
theorem o28_1 : offT Go.Proofs.Tryd.prog 28 1 = some 1 := by kernel_rfl
theorem o28_4 : offT Go.Proofs.Tryd.prog 28 4 = some 4 := by kernel_rfl
theorem fun69 : Go.Proofs.Tryd.prog.funcs[69]? = some Go.Proofs.Tryd.f69 := by kernel_rfl
theorem c69 : callable Go.Proofs.Tryd.prog 69 = true := by kernel_rfl
theorem fun28 : Go.Proofs.Tryd.prog.funcs[28]? = some Go.Proofs.Tryd.f28 := by kernel_rfl
theorem c28 : callable Go.Proofs.Tryd.prog 28 = true := by kernel_rfl
theorem fun139 : Go.Proofs.Tryd.prog.funcs[139]? = some Go.Proofs.Tryd.f139 := by kernel_rfl
theorem c139 : callable Go.Proofs.Tryd.prog 139 = true := by kernel_rfl
theorem fun86 : Go.Proofs.Tryd.prog.funcs[86]? = some Go.Proofs.Tryd.f86 := by kernel_rfl
theorem c86 : callable Go.Proofs.Tryd.prog 86 = true := by kernel_rfl
theorem fun104 : Go.Proofs.Tryd.prog.funcs[104]? = some Go.Proofs.Tryd.f104 := by kernel_rfl
theorem c104 : callable Go.Proofs.Tryd.prog 104 = true := by kernel_rfl
theorem fun48 : Go.Proofs.Tryd.prog.funcs[48]? = some Go.Proofs.Tryd.f48 := by kernel_rfl
theorem c48 : callable Go.Proofs.Tryd.prog 48 = true := by kernel_rfl
theorem a29 : aggB Go.Proofs.Tryd.prog 29 = some false := by kernel_rfl
theorem fun173 : Go.Proofs.Tryd.prog.funcs[173]? = some Go.Proofs.Tryd.f173 := by kernel_rfl
theorem c173 : callable Go.Proofs.Tryd.prog 173 = true := by kernel_rfl
theorem fun134 : Go.Proofs.Tryd.prog.funcs[134]? = some Go.Proofs.Tryd.f134 := by kernel_rfl
theorem c134 : callable Go.Proofs.Tryd.prog 134 = true := by kernel_rfl
theorem fun135 : Go.Proofs.Tryd.prog.funcs[135]? = some Go.Proofs.Tryd.f135 := by kernel_rfl
theorem c135 : callable Go.Proofs.Tryd.prog 135 = true := by kernel_rfl
theorem fun73 : Go.Proofs.Tryd.prog.funcs[73]? = some Go.Proofs.Tryd.f73 := by kernel_rfl
theorem c73 : callable Go.Proofs.Tryd.prog 73 = true := by kernel_rfl
theorem fun89 : Go.Proofs.Tryd.prog.funcs[89]? = some Go.Proofs.Tryd.f89 := by kernel_rfl
theorem c89 : callable Go.Proofs.Tryd.prog 89 = true := by kernel_rfl
theorem fun153 : Go.Proofs.Tryd.prog.funcs[153]? = some Go.Proofs.Tryd.f153 := by kernel_rfl
theorem c153 : callable Go.Proofs.Tryd.prog 153 = true := by kernel_rfl
theorem fun105 : Go.Proofs.Tryd.prog.funcs[105]? = some Go.Proofs.Tryd.f105 := by kernel_rfl
theorem c105 : callable Go.Proofs.Tryd.prog 105 = true := by kernel_rfl
theorem fun49 : Go.Proofs.Tryd.prog.funcs[49]? = some Go.Proofs.Tryd.f49 := by kernel_rfl
theorem c49 : callable Go.Proofs.Tryd.prog 49 = true := by kernel_rfl
theorem fun7 : Go.Proofs.Tryd.prog.funcs[7]? = some Go.Proofs.Tryd.f7 := by kernel_rfl
theorem c7 : callable Go.Proofs.Tryd.prog 7 = true := by kernel_rfl
end Go.Dl
