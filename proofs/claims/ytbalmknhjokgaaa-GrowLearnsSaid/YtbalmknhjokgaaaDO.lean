/- Printed by wip/gen: how what is handed in is opened. -/
import Derived.Test.YtbalmknhjokgaaaDlOpen
import Derived.Test.YtbalmknhjokgaaaDT
namespace Go.Dl
open Go

theorem gl0 (w : World) (G : Good) : Gl w G := fun e he => by simp [gls] at he
def okI (x : Int) : Prop := (Lit.int .i64 x).wf = true
def okLI (x : List Int) : Prop := x.length ≤ maxLen ∧ ∀ y ∈ x, okI y
def okSample (x : Sample) : Prop := okLI x.row ∧ okI x.target ∧ True
def okLSample (x : List Sample) : Prop := x.length ≤ maxLen ∧ ∀ y ∈ x, okSample y
theorem k22 : Go.Proofs.Try.prog.cellsOf 22 = 1 := by kernel_rfl
theorem k25 : Go.Proofs.Try.prog.cellsOf 25 = 2 := by kernel_rfl
theorem k3 : Go.Proofs.Try.prog.cellsOf 3 = 1 := by kernel_rfl
theorem uo3 : Go.Proofs.Try.prog.underlying 3 = some (.int .i64) := by kernel_rfl
theorem op3 : Opens Go.Proofs.Try.prog 3 1 (fun y => [iI y]) okI := opens_int uo3 k3
theorem k23 : Go.Proofs.Try.prog.cellsOf 23 = 1 := by kernel_rfl
theorem uo23 : Go.Proofs.Try.prog.underlying 23 = some (.slice 3) := by kernel_rfl
theorem op23 : Opens Go.Proofs.Try.prog 23 1 (fun y => [iSL 1 cI y]) okLI := opens_slice (c := cI) (ok := okI) uo23 k23 (by decide) op3
theorem sl25 : structL Go.Proofs.Try.prog 25 = some [(23, 0, 1), (3, 1, 1)] := by kernel_rfl
theorem op25 : Opens Go.Proofs.Try.prog 25 2 cSample okSample := opens_struct sl25 k25 (fun _ => rfl) (opensF_cons op23 (opensF_cons op3 opensF_nil)) (fun y => Sample.mk y.1 y.2.1) (fun _ => rfl) (fun _ h => h)
theorem uo22 : Go.Proofs.Try.prog.underlying 22 = some (.slice 25) := by kernel_rfl
theorem op22 : Opens Go.Proofs.Try.prog 22 1 (fun y => [iSL 2 cSample y]) okLSample := opens_slice (c := cSample) (ok := okSample) uo22 k22 (by decide) op25
theorem rr22 : Go.Proofs.Try.prog.readableRec 22 = true := by kernel_rfl
theorem rl22 : 22 < Go.Proofs.Try.prog.types.size := of_decide_eq_true (by kernel_rfl)
theorem rr3 : Go.Proofs.Try.prog.readableRec 3 = true := by kernel_rfl
theorem rl3 : 3 < Go.Proofs.Try.prog.types.size := of_decide_eq_true (by kernel_rfl)
theorem uo4 : Go.Proofs.Try.prog.underlying 4 = some (.bool) := by kernel_rfl
end Go.Dl
