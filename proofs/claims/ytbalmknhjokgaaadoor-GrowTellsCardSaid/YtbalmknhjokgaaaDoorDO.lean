/- Printed by wip/gen: how what is handed in is opened. -/
import Derived.Test.YtbalmknhjokgaaaDoorDlOpen
import Derived.Test.YtbalmknhjokgaaaDoorDT
namespace Go.Dl
open Go

def okI (x : Int) : Prop := (Lit.int .i64 x).wf = true
def okLI (x : List Int) : Prop := x.length ≤ maxLen ∧ ∀ y ∈ x, okI y
def okSample (x : Sample) : Prop := okLI x.row ∧ okI x.target ∧ True
def okLSample (x : List Sample) : Prop := x.length ≤ maxLen ∧ ∀ y ∈ x, okSample y
theorem k50 : Go.Proofs.Tryd.prog.cellsOf 50 = 1 := by kernel_rfl
theorem k146 : Go.Proofs.Tryd.prog.cellsOf 146 = 2 := by kernel_rfl
theorem k3 : Go.Proofs.Tryd.prog.cellsOf 3 = 1 := by kernel_rfl
theorem uo3 : Go.Proofs.Tryd.prog.underlying 3 = some (.int .i64) := by kernel_rfl
theorem op3 : Opens Go.Proofs.Tryd.prog 3 1 (fun y => [iI y]) okI := opens_int uo3 k3
theorem k22 : Go.Proofs.Tryd.prog.cellsOf 22 = 1 := by kernel_rfl
theorem uo22 : Go.Proofs.Tryd.prog.underlying 22 = some (.slice 3) := by kernel_rfl
theorem op22 : Opens Go.Proofs.Tryd.prog 22 1 (fun y => [iSL 1 cI y]) okLI := opens_slice (c := cI) (ok := okI) uo22 k22 (by decide) op3
theorem sl146 : structL Go.Proofs.Tryd.prog 146 = some [(22, 0, 1), (3, 1, 1)] := by kernel_rfl
theorem op146 : Opens Go.Proofs.Tryd.prog 146 2 cSample okSample := opens_struct sl146 k146 (fun _ => rfl) (opensF_cons op22 (opensF_cons op3 opensF_nil)) (fun y => Sample.mk y.1 y.2.1) (fun _ => rfl) (fun _ h => h)
theorem uo50 : Go.Proofs.Tryd.prog.underlying 50 = some (.slice 146) := by kernel_rfl
theorem op50 : Opens Go.Proofs.Tryd.prog 50 1 (fun y => [iSL 2 cSample y]) okLSample := opens_slice (c := cSample) (ok := okSample) uo50 k50 (by decide) op146
theorem rr50 : Go.Proofs.Tryd.prog.readableRec 50 = true := by kernel_rfl
theorem rl50 : 50 < Go.Proofs.Tryd.prog.types.size := of_decide_eq_true (by kernel_rfl)
theorem rr3 : Go.Proofs.Tryd.prog.readableRec 3 = true := by kernel_rfl
theorem rl3 : 3 < Go.Proofs.Tryd.prog.types.size := of_decide_eq_true (by kernel_rfl)
def okB (x : Bool) : Prop := True
def okNode (x : Node) : Prop := okI x.feature ∧ okI x.cut ∧ okI x.left ∧ okI x.right ∧ okB x.less ∧ okI x.value ∧ True
def okLNode (x : List Node) : Prop := x.length ≤ maxLen ∧ ∀ y ∈ x, okNode y
theorem k29 : Go.Proofs.Tryd.prog.cellsOf 29 = 1 := by kernel_rfl
theorem k28 : Go.Proofs.Tryd.prog.cellsOf 28 = 6 := by kernel_rfl
theorem k4 : Go.Proofs.Tryd.prog.cellsOf 4 = 1 := by kernel_rfl
theorem uo4 : Go.Proofs.Tryd.prog.underlying 4 = some (.bool) := by kernel_rfl
theorem op4 : Opens Go.Proofs.Tryd.prog 4 1 (fun y => [iB y]) okB := opens_bool uo4 k4
theorem sl28 : structL Go.Proofs.Tryd.prog 28 = some [(3, 0, 1), (3, 1, 1), (3, 2, 1), (3, 3, 1), (4, 4, 1), (3, 5, 1)] := by kernel_rfl
theorem op28 : Opens Go.Proofs.Tryd.prog 28 6 cNode okNode := opens_struct sl28 k28 (fun _ => rfl) (opensF_cons op3 (opensF_cons op3 (opensF_cons op3 (opensF_cons op3 (opensF_cons op4 (opensF_cons op3 opensF_nil)))))) (fun y => Node.mk y.1 y.2.1 y.2.2.1 y.2.2.2.1 y.2.2.2.2.1 y.2.2.2.2.2.1) (fun _ => rfl) (fun _ h => h)
theorem uo29 : Go.Proofs.Tryd.prog.underlying 29 = some (.slice 28) := by kernel_rfl
theorem op29 : Opens Go.Proofs.Tryd.prog 29 1 (fun y => [iSL 6 cNode y]) okLNode := opens_slice (c := cNode) (ok := okNode) uo29 k29 (by decide) op28
theorem rr29 : Go.Proofs.Tryd.prog.readableRec 29 = true := by kernel_rfl
theorem rl29 : 29 < Go.Proofs.Tryd.prog.types.size := of_decide_eq_true (by kernel_rfl)
end Go.Dl
