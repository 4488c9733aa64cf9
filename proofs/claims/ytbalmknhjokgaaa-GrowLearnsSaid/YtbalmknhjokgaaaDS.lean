/- The library's contracts laid at this program. -/
import Derived.Test.YtbalmknhjokgaaaShelf
import Derived.Test.YtbalmknhjokgaaaDlSort
namespace Go.Dl
open Go Go.Proofs
theorem f106_fn (N : Nat) (l r : List Int) (h : slices_Sort N l = some r) : Fn Try.prog 106 [.ref 1] [(1, .row 3 1 cI l)] (.tup []) [(1, .row 3 1 cI r)] := by
  have e : Try.laysSort_ren.f 189 = 106 := by kernel_rfl
  rw [← e]; exact sort_fn Try.laysSort 3 N l r h
theorem f107_fn (N : Nat) (l r : List Int) (h : slices_Compact N l = some r) : Fn Try.prog 107 [.ref 1] [(1, .row 3 1 cI l)] (.ref 11) [(11, .row 3 1 cI r)] := by
  have e : Try.laysCompact_ren.f 20 = 107 := by kernel_rfl
  rw [← e]; exact compact_fn Try.laysCompact 3 N l r h
end Go.Dl
