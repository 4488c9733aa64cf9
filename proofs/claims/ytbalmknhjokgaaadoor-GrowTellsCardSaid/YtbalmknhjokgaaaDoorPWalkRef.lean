/- The reference's way of a row, and its check of rows. -/
import Derived.Test.YtbalmknhjokgaaaDoorPTreeRef
import Derived.Test.YtbalmknhjokgaaaDoorPWalk
set_option linter.unusedVariables false
namespace Go.Dl
theorem left_eq (N : Nat) (n : Node) (c : Int) : orchref1_Left N n c = some (decide ((c = NIL ∧ n.less = true) ∨ (c ≠ NIL ∧ c < n.cut))) := by
  unfold orchref1_Left orchref1_none
  simp only [Option.bind_some]
  by_cases h : c = NIL
  · cases hl : n.less <;> simp [h]
  · simp [h]
section
variable {F : Int} {t : List Node} (ho : OkN F t) {r : List Int} (hr : F ≤ r.length) (hl : t.length ≤ 63)
include ho hr
theorem leaf_l (N : Nat) (hl : t.length ≤ 63) : ∀ (n : Nat) (i : Int) (w : List Int), 0 ≤ i → i < t.length → (t.length : Int) - i < n → w.length ≤ i + 1 →
    orchref1_Leaf_l1 N t r n i w = some (walk t r t.length i, w ++ way t r t.length i)
  | 0, i, w, _, _, _, _ => by omega
  | n + 1, i, w, h0, h1, h2, h3 => by
    rw [orchref1_Leaf_l1, ix_nd h0 h1, walk_st ho hr t.length (t.length + 1) i h0 h1 (by omega) (by omega), way_st ho hr t.length (t.length + 1) i h0 h1 (by omega) (by omega), walk, way]
    simp only [Option.bind_some]
    by_cases hf : (nd t i).feature = -1
    · simp [hf, orchref1_Leaf_j1]
    · obtain ⟨b0, b1, _⟩ := okN_node ho h0 h1 hf
      obtain ⟨a1, a2⟩ := okN_step ho hr h0 h1 hf
      have hf' : ((nd t i).feature != -1) = true := by simpa using hf
      rw [if_pos hf', if_neg hf, if_neg hf, ix_cellR b0 (by omega)]
      simp only [Option.bind_some, left_eq]
      have hs : stepN (nd t i) (cellR r (nd t i).feature) = if (cellR r (nd t i).feature = NIL ∧ (nd t i).less = true) ∨ (cellR r (nd t i).feature ≠ NIL ∧ cellR r (nd t i).feature < (nd t i).cut) then (nd t i).left else (nd t i).right := rfl
      by_cases hc : (cellR r (nd t i).feature = NIL ∧ (nd t i).less = true) ∨ (cellR r (nd t i).feature ≠ NIL ∧ cellR r (nd t i).feature < (nd t i).cut)
      · rw [if_pos hc] at hs
        rw [hs] at a1 a2
        rw [if_pos (by simpa using hc), app_ok _ _ (by simp [LIM]; omega), hs]
        simp only [Option.bind_some]
        rw [leaf_l N hl n _ _ (by omega) a2 (by omega) (by simp; omega)]
        simp
      · rw [if_neg hc] at hs
        rw [hs] at a1 a2
        rw [if_neg (by simpa using hc), app_ok _ _ (by simp [LIM]; omega), hs]
        simp only [Option.bind_some]
        rw [leaf_l N hl n _ _ (by omega) a2 (by omega) (by simp; omega)]
        simp
end
theorem leaf_ref {N : Nat} {F : Int} {t : List Node} {r : List Int} (h : Right t F) (hr : F ≤ r.length) (hN : 64 < N) : orchref1_Leaf N t r = some (leafOf t r, 0 :: way t r t.length 0) := by
  have h1 := h.len0; have h2 := h.len1
  unfold orchref1_Leaf
  have := leaf_l h.ok hr N h2 N 0 [0] (by omega) (by omega) (by omega) (by simp)
  rw [this]; rfl
theorem value_ref {N : Nat} {F : Int} {t : List Node} {r : List Int} (h : Right t F) (hr : F ≤ r.length) (hN : 64 < N) : orchref2_Value N t r = some (valueOf t r) := by
  obtain ⟨a1, a2, a3⟩ := leafOf_in h hr
  unfold orchref2_Value
  rw [leaf_ref h hr hN]
  simp only [Option.bind_some]
  rw [ix_nd a1 a2]; rfl

theorem row_ref_l (N : Nat) (r : List Int) (hl : r.length ≤ 1000) : ∀ (n i : Nat), i ≤ r.length → r.length - i < n → orchref1_Row_l1 N r n (i : Int) = some (if (r.drop i).any badC then 1 else 0)
  | 0, i, _, _ => by omega
  | n + 1, i, h1, h2 => by
    rw [orchref1_Row_l1]
    by_cases hi : i < r.length
    · have hi' : (i : Int) < (r.length : Int) := by omega
      simp only [hi', decide_true, if_true, ix_get r i hi, Option.bind_some, w64_succ i (by omega), orchref1_Cell, orchref1_none]
      rw [List.drop_eq_getElem_cons hi, List.any_cons, row_ref_l N r hl n (i + 1) (by omega) (by omega)]
      have e : badC r[i] = ((!(decide (r[i] ≥ -1000000) && decide (r[i] ≤ 1000000))) && !(r[i] == -1125899906842624)) := rfl
      rw [← e]
      cases badC r[i] <;> simp
    · have hi' : ¬ (i : Int) < (r.length : Int) := by omega
      simp only [hi', decide_false, Bool.false_eq_true, if_false, orchref1_Row_j1]
      rw [List.drop_eq_nil_of_le (by omega)]; simp
theorem row_ref {N : Nat} (hN : 1000 < N) (r : List Int) : orchref1_Row N r = some (rowF r) := by
  unfold orchref1_Row rowF
  by_cases h : r.length > 8
  · rw [if_pos h, if_pos (by simp; omega)]
  · rw [if_neg h, if_neg (by simp; omega)]
    have := row_ref_l N r (by omega) N 0 (by omega) (by omega)
    simpa using this
end Go.Dl
