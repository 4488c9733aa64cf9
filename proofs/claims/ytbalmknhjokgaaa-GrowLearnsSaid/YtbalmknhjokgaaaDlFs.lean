/- The library's plain functions. -/
import Derived.Lib.SlicesCompact
import Derived.Test.YtbalmknhjokgaaaDlF
set_option linter.unusedVariables false
namespace Go.Dl
def ins (a : Int) : List Int → List Int
  | [] => [a]
  | b :: l => if a ≤ b then a :: b :: l else b :: ins a l
def isort : List Int → List Int
  | [] => []
  | a :: l => ins a (isort l)
theorem ins_perm (a : Int) : ∀ l, (ins a l).Perm (a :: l)
  | [] => List.Perm.refl _
  | b :: l => by
    unfold ins
    split
    · exact List.Perm.refl _
    · exact ((ins_perm a l).cons b).trans (List.Perm.swap a b l)
theorem isort_perm : ∀ l, (isort l).Perm l
  | [] => List.Perm.refl _
  | a :: l => (ins_perm a _).trans ((isort_perm l).cons a)
theorem ins_sorted (a : Int) : ∀ l : List Int, l.Pairwise (· ≤ ·) → (ins a l).Pairwise (· ≤ ·)
  | [], _ => by simp [ins]
  | b :: l, h => by
    unfold ins
    have hb := List.pairwise_cons.1 h
    split
    · rename_i hab
      refine List.pairwise_cons.2 ⟨fun x hx => ?_, h⟩
      rcases List.mem_cons.1 hx with rfl | hx
      · exact hab
      · exact Int.le_trans hab (hb.1 x hx)
    · rename_i hab
      refine List.pairwise_cons.2 ⟨fun x hx => ?_, ins_sorted a l hb.2⟩
      rcases List.mem_cons.1 ((ins_perm a l).mem_iff.1 hx) with rfl | hx
      · omega
      · exact hb.1 x hx
theorem isort_sorted : ∀ l, (isort l).Pairwise (· ≤ ·)
  | [] => List.Pairwise.nil
  | a :: l => ins_sorted a _ (isort_sorted l)
theorem perm_sorted_eq : ∀ (l m : List Int), l.Perm m → l.Pairwise (· ≤ ·) → m.Pairwise (· ≤ ·) → l = m
  | [], m, h, _, _ => (List.Perm.nil_eq h)
  | a :: l, [], h, _, _ => absurd h.length_eq (by simp)
  | a :: l, b :: m, h, h1, h2 => by
    have e1 := List.pairwise_cons.1 h1
    have e2 := List.pairwise_cons.1 h2
    have ha : a ∈ b :: m := h.mem_iff.1 (by simp)
    have hb : b ∈ a :: l := h.mem_iff.2 (by simp)
    have : a = b := by
      rcases List.mem_cons.1 ha with rfl | ha
      · rfl
      · rcases List.mem_cons.1 hb with rfl | hb
        · rfl
        · have := e1.1 b hb; have := e2.1 a ha; omega
    subst this
    rw [perm_sorted_eq l m ((List.perm_cons a).1 h) e1.2 e2.2]
theorem mergeSort_isort (l : List Int) : (l.mergeSort fun x y => decide (x ≤ y)) = isort l :=
  perm_sorted_eq _ _ ((List.mergeSort_perm l _).trans (isort_perm l).symm)
    ((List.pairwise_mergeSort (le := fun x y => decide (x ≤ y)) (fun a b c h1 h2 => by simp at *; omega) (fun a b => by simp; omega) l).imp (by simp)) (isort_sorted l)
/-- sorted -/
def slices_Sort (N : Nat) (l : List Int) : Option (List Int) := if l.length ≤ LIM then some (isort l) else none
/-- runs of one value made one -/
def slices_Compact (N : Nat) (l : List Int) : Option (List Int) := if l.length ≤ LIM then some (Lib.compact l) else none

end Go.Dl
