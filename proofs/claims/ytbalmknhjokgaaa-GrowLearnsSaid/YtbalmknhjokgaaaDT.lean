/- Printed by wip/gen: how the data stand in cells; facts of the program. -/
import Derived.Test.YtbalmknhjokgaaaDlArr
import Derived.Test.YtbalmknhjokgaaaDF
import Derived.Test.YtbalmknhjokgaaaProg
namespace Go.Dl
open Go
abbrev TE : TypeId := 95

abbrev cU8 (y : Int) : List It := [iK .u8 y]
abbrev cB (y : Bool) : List It := [iB y]
abbrev cStr (y : ByteArray) : List It := [iStr y]
abbrev cEr (y : Option Int) : List It := [iEr TE y]
abbrev cLI (y : List Int) : List It := [iSL 1 cI y]
abbrev cSample (y : Sample) : List It := [iSL 1 cI y.row, iI y.target]
abbrev cLSample (y : List Sample) : List It := [iSL 2 cSample y]
abbrev cNode (y : Node) : List It := [iI y.feature, iI y.cut, iI y.left, iI y.right, iB y.less, iI y.value]
abbrev cLNode (y : List Node) : List It := [iSL 6 cNode y]
abbrev cLLNode (y : List (List Node)) : List It := [iSL 1 cLNode y]
abbrev cGrove (y : Grove) : List It := [iI y.features, iI y.way, iSL 1 cI y.weights, iSL 1 cLNode y.trees]
abbrev cLGrove (y : List Grove) : List It := [iSL 4 cGrove y]
abbrev cUse (y : Use) : List It := [iI y.feature, iI y.nodes, iI y.gain]
abbrev cLUse (y : List Use) : List It := [iSL 3 cUse y]
abbrev cAnswer (y : Answer) : List It := [iI y.number, iI y.index]
abbrev cLAnswer (y : List Answer) : List It := [iSL 2 cAnswer y]
abbrev cLU8 (y : List Int) : List It := [iSL 1 cU8 y]
abbrev cCall (y : Call) : List It := [iI y.what, iI y.session, iI y.seq, iStr y.name, iI y.number, iI y.share, iSL 1 cU8 y.bytes]
abbrev cLCall (y : List Call) : List It := [iSL 7 cCall y]
abbrev cVersion (y : Version) : List It := [iStr y.name, iI y.number, iI y.stage, iI y.share]
abbrev cLVersion (y : List Version) : List It := [iSL 4 cVersion y]
abbrev cScore (y : Score) : List It := [iI y.value, iI y.version, iI y.index]
abbrev cLScore (y : List Score) : List It := [iSL 3 cScore y]
abbrev cA2I (y : A2I) : List It := [iI y.e0, iI y.e1]
abbrev cLA2I (y : List A2I) : List It := [iSL 2 cA2I y]
abbrev cLB (y : List Bool) : List It := [iSL 1 cB y]
abbrev cLStr (y : List ByteArray) : List It := [iSL 1 cStr y]
abbrev cLLI (y : List (List Int)) : List It := [iSL 1 cLI y]

theorem fun85 : Go.Proofs.Try.prog.funcs[85]? = some Go.Proofs.Try.f85 := by kernel_rfl
theorem c85 : callable Go.Proofs.Try.prog 85 = true := by kernel_rfl
theorem u23 : Go.Proofs.Try.prog.underlying 23 = some (.slice 3) := by kernel_rfl
theorem u95 : Go.Proofs.Try.prog.underlying 95 = some (.int .i64) := by kernel_rfl
theorem s3 : sizeT Go.Proofs.Try.prog 3 = some 1 := by kernel_rfl
theorem a3 : aggB Go.Proofs.Try.prog 3 = some false := by kernel_rfl
theorem fun41 : Go.Proofs.Try.prog.funcs[41]? = some Go.Proofs.Try.f41 := by kernel_rfl
theorem c41 : callable Go.Proofs.Try.prog 41 = true := by kernel_rfl
theorem fun86 : Go.Proofs.Try.prog.funcs[86]? = some Go.Proofs.Try.f86 := by kernel_rfl
theorem c86 : callable Go.Proofs.Try.prog 86 = true := by kernel_rfl
theorem fun42 : Go.Proofs.Try.prog.funcs[42]? = some Go.Proofs.Try.f42 := by kernel_rfl
theorem c42 : callable Go.Proofs.Try.prog 42 = true := by kernel_rfl
theorem u22 : Go.Proofs.Try.prog.underlying 22 = some (.slice 25) := by kernel_rfl
theorem s25 : sizeT Go.Proofs.Try.prog 25 = some 2 := by kernel_rfl
theorem a25 : aggB Go.Proofs.Try.prog 25 = some true := by kernel_rfl
theorem za25 : ((Go.Proofs.Try.prog.info? 25).bind (·.zero)).map (fun z => z.cells.toList) = some [.slice none 0 0, .int .i64 0] := by kernel_rfl
theorem zSample : ∀ w G, cellsRd w G [.slice none 0 0, .int .i64 0] (cSample (Sample.mk [] 0)) := fun _ _ => ⟨⟨none, 0, rfl, Nat.le_refl _, fun h => absurd rfl h⟩, rfl, trivial⟩
theorem o25_0 : offT Go.Proofs.Try.prog 25 0 = some 0 := by kernel_rfl
theorem a23 : aggB Go.Proofs.Try.prog 23 = some false := by kernel_rfl
theorem u28 : Go.Proofs.Try.prog.underlying 28 = some (.interface #[("Error", 255)]) := by kernel_rfl
theorem o25_1 : offT Go.Proofs.Try.prog 25 1 = some 1 := by kernel_rfl
theorem fun11 : Go.Proofs.Try.prog.funcs[11]? = some Go.Proofs.Try.f11 := by kernel_rfl
theorem c11 : callable Go.Proofs.Try.prog 11 = true := by kernel_rfl
theorem fun39 : Go.Proofs.Try.prog.funcs[39]? = some Go.Proofs.Try.f39 := by kernel_rfl
theorem c39 : callable Go.Proofs.Try.prog 39 = true := by kernel_rfl
theorem fun83 : Go.Proofs.Try.prog.funcs[83]? = some Go.Proofs.Try.f83 := by kernel_rfl
theorem c83 : callable Go.Proofs.Try.prog 83 = true := by kernel_rfl
theorem bl22 : bldL Go.Proofs.Try.prog 22 = some (25, [.slice none 0 0, .int .i64 0]) := by kernel_rfl
theorem i25 : infoT Go.Proofs.Try.prog 25 = some (2, 32, 2) := by kernel_rfl
theorem fun84 : Go.Proofs.Try.prog.funcs[84]? = some Go.Proofs.Try.f84 := by kernel_rfl
theorem c84 : callable Go.Proofs.Try.prog 84 = true := by kernel_rfl
theorem c106 : callable Go.Proofs.Try.prog 106 = true := by kernel_rfl
theorem c107 : callable Go.Proofs.Try.prog 107 = true := by kernel_rfl
theorem bl23 : bldL Go.Proofs.Try.prog 23 = some (3, [.int .i64 0]) := by kernel_rfl
theorem zI : ∀ w G, cellsRd w G [.int .i64 0] (cI 0) := fun _ _ => ⟨rfl, trivial⟩
theorem i3 : infoT Go.Proofs.Try.prog 3 = some (1, 8, 1) := by kernel_rfl
theorem fun62 : Go.Proofs.Try.prog.funcs[62]? = some Go.Proofs.Try.f62 := by kernel_rfl
theorem c62 : callable Go.Proofs.Try.prog 62 = true := by kernel_rfl
theorem fun82 : Go.Proofs.Try.prog.funcs[82]? = some Go.Proofs.Try.f82 := by kernel_rfl
theorem c82 : callable Go.Proofs.Try.prog 82 = true := by kernel_rfl
theorem u26 : Go.Proofs.Try.prog.underlying 26 = some (.slice 32) := by kernel_rfl
theorem bs32 : bldS Go.Proofs.Try.prog 32 = some ([.int .i64 0, .int .i64 0, .int .i64 0, .int .i64 0, .bool false, .int .i64 0], [(0, 1), (1, 1), (2, 1), (3, 1), (4, 1), (5, 1)]) := by kernel_rfl
theorem zNode : ∀ w G, cellsRd w G [.int .i64 0, .int .i64 0, .int .i64 0, .int .i64 0, .bool false, .int .i64 0] (cNode (Node.mk 0 0 0 0 false 0)) := fun _ _ => ⟨rfl, rfl, rfl, rfl, rfl, rfl, trivial⟩
theorem bl26 : bldL Go.Proofs.Try.prog 26 = some (32, [.int .i64 0, .int .i64 0, .int .i64 0, .int .i64 0, .bool false, .int .i64 0]) := by kernel_rfl
theorem i32 : infoT Go.Proofs.Try.prog 32 = some (6, 48, 6) := by kernel_rfl
theorem c40 : callable Go.Proofs.Try.prog 40 = true := by kernel_rfl
theorem s32 : sizeT Go.Proofs.Try.prog 32 = some 6 := by kernel_rfl
theorem o32_3 : offT Go.Proofs.Try.prog 32 3 = some 3 := by kernel_rfl
theorem fun40 : Go.Proofs.Try.prog.funcs[40]? = some Go.Proofs.Try.f40 := by kernel_rfl
theorem fun10 : Go.Proofs.Try.prog.funcs[10]? = some Go.Proofs.Try.f10 := by kernel_rfl
theorem c10 : callable Go.Proofs.Try.prog 10 = true := by kernel_rfl
theorem bs25 : bldS Go.Proofs.Try.prog 25 = some ([.slice none 0 0, .int .i64 0], [(0, 1), (1, 1)]) := by kernel_rfl
theorem o32_5 : offT Go.Proofs.Try.prog 32 5 = some 5 := by kernel_rfl
theorem mixed : Go.Proofs.Try.prog.follows .mixedOrders = true := by kernel_rfl
theorem a32 : aggB Go.Proofs.Try.prog 32 = some true := by kernel_rfl
theorem za32 : ((Go.Proofs.Try.prog.info? 32).bind (·.zero)).map (fun z => z.cells.toList) = some [.int .i64 0, .int .i64 0, .int .i64 0, .int .i64 0, .bool false, .int .i64 0] := by kernel_rfl
theorem o32_0 : offT Go.Proofs.Try.prog 32 0 = some 0 := by kernel_rfl
theorem sf32 : structF Go.Proofs.Try.prog 32 = some [("Feature", 3, 0), ("Cut", 3, 1), ("Left", 3, 2), ("Right", 3, 3), ("Less", 4, 4), ("Value", 3, 5)] := by kernel_rfl
theorem u3 : Go.Proofs.Try.prog.underlying 3 = some (.int .i64) := by kernel_rfl
theorem a4 : aggB Go.Proofs.Try.prog 4 = some false := by kernel_rfl
theorem u4 : Go.Proofs.Try.prog.underlying 4 = some (.bool) := by kernel_rfl
theorem eql32 (x y : Node) : EqL Go.Proofs.Try.prog (cNode x) (cNode y) [("Feature", 3, 0), ("Cut", 3, 1), ("Left", 3, 2), ("Right", 3, 3), ("Less", 4, 4), ("Value", 3, 5)] (eqNode x y) := .cons (by decide) a3 rfl rfl (.int u3) (.cons (by decide) a3 rfl rfl (.int u3) (.cons (by decide) a3 rfl rfl (.int u3) (.cons (by decide) a3 rfl rfl (.int u3) (.cons (by decide) a4 rfl rfl (.bool u4) (.cons (by decide) a3 rfl rfl (.int u3) (.nil))))))
theorem fun3 : Go.Proofs.Try.prog.funcs[3]? = some Go.Proofs.Try.f3 := by kernel_rfl
theorem c3 : callable Go.Proofs.Try.prog 3 = true := by kernel_rfl
theorem a26 : aggB Go.Proofs.Try.prog 26 = some false := by kernel_rfl
theorem fun104 : Go.Proofs.Try.prog.funcs[104]? = some Go.Proofs.Try.f104 := by kernel_rfl
theorem c104 : callable Go.Proofs.Try.prog 104 = true := by kernel_rfl
theorem o32_1 : offT Go.Proofs.Try.prog 32 1 = some 1 := by kernel_rfl
theorem o32_2 : offT Go.Proofs.Try.prog 32 2 = some 2 := by kernel_rfl
theorem o32_4 : offT Go.Proofs.Try.prog 32 4 = some 4 := by kernel_rfl
theorem fun58 : Go.Proofs.Try.prog.funcs[58]? = some Go.Proofs.Try.f58 := by kernel_rfl
theorem c58 : callable Go.Proofs.Try.prog 58 = true := by kernel_rfl
theorem fun59 : Go.Proofs.Try.prog.funcs[59]? = some Go.Proofs.Try.f59 := by kernel_rfl
theorem c59 : callable Go.Proofs.Try.prog 59 = true := by kernel_rfl
theorem fun18 : Go.Proofs.Try.prog.funcs[18]? = some Go.Proofs.Try.f18 := by kernel_rfl
theorem c18 : callable Go.Proofs.Try.prog 18 = true := by kernel_rfl
theorem fun19 : Go.Proofs.Try.prog.funcs[19]? = some Go.Proofs.Try.f19 := by kernel_rfl
theorem c19 : callable Go.Proofs.Try.prog 19 = true := by kernel_rfl
theorem fun60 : Go.Proofs.Try.prog.funcs[60]? = some Go.Proofs.Try.f60 := by kernel_rfl
theorem c60 : callable Go.Proofs.Try.prog 60 = true := by kernel_rfl
theorem fun105 : Go.Proofs.Try.prog.funcs[105]? = some Go.Proofs.Try.f105 := by kernel_rfl
theorem c105 : callable Go.Proofs.Try.prog 105 = true := by kernel_rfl
theorem fun61 : Go.Proofs.Try.prog.funcs[61]? = some Go.Proofs.Try.f61 := by kernel_rfl
theorem c61 : callable Go.Proofs.Try.prog 61 = true := by kernel_rfl
theorem fun20 : Go.Proofs.Try.prog.funcs[20]? = some Go.Proofs.Try.f20 := by kernel_rfl
theorem c20 : callable Go.Proofs.Try.prog 20 = true := by kernel_rfl
theorem fun47 : Go.Proofs.Try.prog.funcs[47]? = some Go.Proofs.Try.f47 := by kernel_rfl
theorem c47 : callable Go.Proofs.Try.prog 47 = true := by kernel_rfl
theorem fun21 : Go.Proofs.Try.prog.funcs[21]? = some Go.Proofs.Try.f21 := by kernel_rfl
theorem c21 : callable Go.Proofs.Try.prog 21 = true := by kernel_rfl
theorem fun22 : Go.Proofs.Try.prog.funcs[22]? = some Go.Proofs.Try.f22 := by kernel_rfl
theorem c22 : callable Go.Proofs.Try.prog 22 = true := by kernel_rfl
theorem za58 : ((Go.Proofs.Try.prog.info? 58).bind (·.zero)).map (fun z => z.cells.toList) = some [.int .i64 0, .int .i64 0] := by kernel_rfl
theorem zA2I : ∀ w G, cellsRd w G [.int .i64 0, .int .i64 0] (cA2I (A2I.mk 0 0)) := fun _ _ => ⟨rfl, rfl, trivial⟩
theorem u58 : Go.Proofs.Try.prog.underlying 58 = some (.array 2 3) := by kernel_rfl
theorem s58 : sizeT Go.Proofs.Try.prog 58 = some 2 := by kernel_rfl
theorem a58 : aggB Go.Proofs.Try.prog 58 = some true := by kernel_rfl
theorem fun23 : Go.Proofs.Try.prog.funcs[23]? = some Go.Proofs.Try.f23 := by kernel_rfl
theorem c23 : callable Go.Proofs.Try.prog 23 = true := by kernel_rfl
theorem za53 : ((Go.Proofs.Try.prog.info? 53).bind (·.zero)).map (fun z => z.cells.toList) = some [.int .i64 0, .int .i64 0, .int .i64 0, .int .i64 0, .int .i64 0, .int .i64 0, .int .i64 0, .int .i64 0, .int .i64 0, .int .i64 0, .int .i64 0, .int .i64 0, .int .i64 0, .int .i64 0, .int .i64 0, .int .i64 0, .int .i64 0, .int .i64 0, .int .i64 0, .int .i64 0, .int .i64 0, .int .i64 0, .int .i64 0, .int .i64 0, .int .i64 0, .int .i64 0, .int .i64 0, .int .i64 0, .int .i64 0, .int .i64 0, .int .i64 0, .int .i64 0, .int .i64 0, .int .i64 0, .int .i64 0, .int .i64 0, .int .i64 0, .int .i64 0, .int .i64 0, .int .i64 0, .int .i64 0, .int .i64 0, .int .i64 0, .int .i64 0, .int .i64 0, .int .i64 0, .int .i64 0, .int .i64 0, .int .i64 0, .int .i64 0, .int .i64 0, .int .i64 0, .int .i64 0, .int .i64 0, .int .i64 0, .int .i64 0, .int .i64 0, .int .i64 0, .int .i64 0, .int .i64 0, .int .i64 0, .int .i64 0, .int .i64 0] := by kernel_rfl
theorem zr53 : ∀ w G, cellsRd w G [.int .i64 0, .int .i64 0, .int .i64 0, .int .i64 0, .int .i64 0, .int .i64 0, .int .i64 0, .int .i64 0, .int .i64 0, .int .i64 0, .int .i64 0, .int .i64 0, .int .i64 0, .int .i64 0, .int .i64 0, .int .i64 0, .int .i64 0, .int .i64 0, .int .i64 0, .int .i64 0, .int .i64 0, .int .i64 0, .int .i64 0, .int .i64 0, .int .i64 0, .int .i64 0, .int .i64 0, .int .i64 0, .int .i64 0, .int .i64 0, .int .i64 0, .int .i64 0, .int .i64 0, .int .i64 0, .int .i64 0, .int .i64 0, .int .i64 0, .int .i64 0, .int .i64 0, .int .i64 0, .int .i64 0, .int .i64 0, .int .i64 0, .int .i64 0, .int .i64 0, .int .i64 0, .int .i64 0, .int .i64 0, .int .i64 0, .int .i64 0, .int .i64 0, .int .i64 0, .int .i64 0, .int .i64 0, .int .i64 0, .int .i64 0, .int .i64 0, .int .i64 0, .int .i64 0, .int .i64 0, .int .i64 0, .int .i64 0, .int .i64 0] ((List.replicate 63 0).flatMap cI) := fun _ _ => ⟨rfl, rfl, rfl, rfl, rfl, rfl, rfl, rfl, rfl, rfl, rfl, rfl, rfl, rfl, rfl, rfl, rfl, rfl, rfl, rfl, rfl, rfl, rfl, rfl, rfl, rfl, rfl, rfl, rfl, rfl, rfl, rfl, rfl, rfl, rfl, rfl, rfl, rfl, rfl, rfl, rfl, rfl, rfl, rfl, rfl, rfl, rfl, rfl, rfl, rfl, rfl, rfl, rfl, rfl, rfl, rfl, rfl, rfl, rfl, rfl, rfl, rfl, rfl, trivial⟩
theorem u53 : Go.Proofs.Try.prog.underlying 53 = some (.array 63 3) := by kernel_rfl
theorem fun5 : Go.Proofs.Try.prog.funcs[5]? = some Go.Proofs.Try.f5 := by kernel_rfl
theorem c5 : callable Go.Proofs.Try.prog 5 = true := by kernel_rfl
end Go.Dl
