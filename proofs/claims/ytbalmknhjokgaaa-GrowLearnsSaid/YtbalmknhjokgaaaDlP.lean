/- Plain facts about the plain functions. -/
import Derived.Test.YtbalmknhjokgaaaDlFs
import Derived.Laws.BitsLemmas
import Derived.Lib.RowBridge
set_option linter.unusedVariables false
namespace Go.Dl

theorem w64_eq (n : Int) : w64 n = (n + 9223372036854775808) % 18446744073709551616 - 9223372036854775808 := by
  show IntKind.wrap .i64 n = _
  rw [IntKind.wrap_i64]
theorem w64_id {n : Int} (h : -9223372036854775808 ≤ n) (h2 : n ≤ 9223372036854775807) : w64 n = n := by rw [w64_eq]; omega
theorem w64_succ (i : Nat) (h : i < 4611686018427387904) : w64 ((i : Int) + 1) = ((i + 1 : Nat) : Int) := by rw [w64_id] <;> omega
theorem ix_get {α : Type} (l : List α) (i : Nat) (h : i < l.length) : ix l (i : Int) = some l[i] := by
  unfold ix; rw [if_pos (by omega)]; simp [h]
theorem ix_some {α : Type} (l : List α) (i : Int) (h0 : 0 ≤ i) (h : i < l.length) : ix l i = some (l[i.toNat]'(by omega)) := by
  unfold ix; rw [if_pos h0]; simp
theorem app_ok {α : Type} (l m : List α) (h : l.length + m.length ≤ LIM) : app l m = some (l ++ m) := by unfold app; rw [if_pos h]
theorem nz_ok {b : Int} (h : b ≠ 0) : nz b = some b := by unfold nz; rw [if_neg h]
theorem sub_ok {α : Type} (l : List α) (lo hi : Int) (h0 : 0 ≤ lo) (h1 : lo ≤ hi) (h2 : hi ≤ l.length) : sub l lo hi = some ((l.take hi.toNat).drop lo.toNat) := by unfold sub; rw [if_pos ⟨h0, h1, h2⟩]
theorem mul_bd {a b A B : Int} (h1 : -A ≤ a) (h2 : a ≤ A) (h3 : -B ≤ b) (h4 : b ≤ B) : -(A * B) ≤ a * b ∧ a * b ≤ A * B := by
  have e1 := Int.mul_nonneg (show 0 ≤ A - a by omega) (show 0 ≤ B + b by omega)
  have e2 := Int.mul_nonneg (show 0 ≤ A + a by omega) (show 0 ≤ B - b by omega)
  have e3 := Int.mul_nonneg (show 0 ≤ A - a by omega) (show 0 ≤ B - b by omega)
  have e4 := Int.mul_nonneg (show 0 ≤ A + a by omega) (show 0 ≤ B + b by omega)
  constructor <;> grind
theorem mul_nn {a b A B : Int} (h1 : 0 ≤ a) (h2 : a ≤ A) (h3 : 0 ≤ b) (h4 : b ≤ B) : 0 ≤ a * b ∧ a * b ≤ A * B := by
  have e1 := Int.mul_nonneg (show 0 ≤ A - a by omega) h3
  have e2 := Int.mul_nonneg (show 0 ≤ A by omega) (show 0 ≤ B - b by omega)
  have e3 := Int.mul_nonneg h1 h3
  constructor <;> grind
theorem compact_pos {l : List Int} (h : l ≠ []) : 0 < (Lib.compact l).length := by
  cases l with
  | nil => exact absurd rfl h
  | cons a l =>
    unfold Lib.compact Lib.compactUpTo
    rw [List.length_map]
    apply List.length_pos_iff.2
    intro hn
    have : (0 : Nat) ∈ (List.range (a :: l).length).filter (Lib.keeps (a :: l).toArray) := List.mem_filter.2 ⟨by simp, Lib.keeps_lt_one _ 0 (by omega)⟩
    rw [hn] at this
    simp at this
theorem sort_ok (N : Nat) (l : List Int) (h : l.length ≤ LIM) : slices_Sort N l = some (isort l) := by unfold slices_Sort; rw [if_pos h]
theorem compact_ok (N : Nat) (l : List Int) (h : l.length ≤ LIM) : slices_Compact N l = some (Lib.compact l) := by unfold slices_Compact; rw [if_pos h]
theorem isort_length (l : List Int) : (isort l).length = l.length := (isort_perm l).length_eq
end Go.Dl
