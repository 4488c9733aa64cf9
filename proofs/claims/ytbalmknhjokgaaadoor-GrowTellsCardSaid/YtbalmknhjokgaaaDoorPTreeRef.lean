/- The reference's check of a tree. -/
import Derived.Test.YtbalmknhjokgaaaDoorPTree
set_option linter.unusedVariables false
namespace Go.Dl
section
variable {F : Int} {t : List Node} (ho : OkN F t)
include ho
theorem refDepth (hl : t.length ≤ 63) : ∀ (N : Nat) (i : Int), 0 ≤ i → i < t.length → (t.length : Int) - i < N → orchref1_Depth N t i = some (dep t t.length i)
  | 0, i, _, _, _ => by omega
  | N + 1, i, h0, h1, h2 => by
    rw [orchref1_Depth, ix_nd h0 h1]
    simp only [Option.bind_some]
    rw [dep_st ho t.length (t.length + 1) i h0 h1 (by omega) (by omega), dep]
    by_cases hf : (nd t i).feature = -1
    · simp [hf]
    · obtain ⟨_, _, _, a1, a2, a3, a4, _⟩ := okN_node ho h0 h1 hf
      have b1 := dep_bd ho t.length _ (by omega) a2
      have b2 := dep_bd ho t.length _ (by omega) a4
      rw [if_neg (by simpa using hf), if_neg hf, refDepth hl N _ (by omega) a2 (by omega), refDepth hl N _ (by omega) a4 (by omega)]
      simp only [Option.bind_some]
      split
      · rename_i hc
        simp only [decide_eq_true_eq] at hc
        rw [w64_id (by omega) (by omega)]; congr 1; omega
      · rename_i hc
        simp only [decide_eq_true_eq] at hc
        rw [w64_id (by omega) (by omega)]; congr 1; omega

end
theorem cell_ref (N : Nat) (n : Int) : orchref1_Cell N n = some (isCell n) := rfl
theorem refTree_l3 (N : Nat) (t : List Node) (F : Int) (hl : t.length ≤ 63) : ∀ (n i : Nat), i ≤ t.length → t.length - i < n →
    orchref1_Tree_l3 N t F n (i : Int) = match scanN F t.length (t.drop i) i with | some p => some p | none => orchref1_Tree_j1 N t
  | 0, i, _, _ => by omega
  | n + 1, i, h1, h2 => by
    rw [orchref1_Tree_l3]
    by_cases hi : i < t.length
    · have hi' : (i : Int) < (t.length : Int) := by omega
      have ih := refTree_l3 N t F hl n (i + 1) (by omega) (by omega)
      simp only [hi', decide_true, if_true, ix_get t i hi, Option.bind_some, cell_ref, w64_succ i (by omega), ih]
      rw [List.drop_eq_getElem_cons hi, scanN]
      have ec : ((i + 1 : Nat) : Int) = (i : Int) + 1 := by omega
      rw [ec]
      generalize t[i] = y
      unfold nodeF
      by_cases hf : y.feature = -1
      · simp only [hf, beq_self_eq_true, if_true]
        by_cases hc : isCell y.value = true
        · simp only [hc, Bool.not_true, Bool.false_eq_true, if_false, Bool.true_eq_false]
          by_cases h3 : y.cut ≠ 0 ∨ y.left ≠ 0 ∨ y.right ≠ 0 ∨ y.less = true
          · rw [if_pos h3, if_pos (by simpa [or_assoc] using h3)]; simp
          · rw [if_neg h3, if_neg (by simpa [or_assoc] using h3)]; simp
        · have hc' : isCell y.value = false := by simpa using hc
          simp [hc']
      · have hf' : (y.feature == -1) = false := by simpa using hf
        simp only [hf', Bool.false_eq_true, if_false, hf]
        by_cases g1 : y.feature < 0 ∨ F ≤ y.feature ∨ isCell y.cut = false ∨ y.left ≤ i ∨ (t.length : Int) ≤ y.left ∨ y.right ≤ i ∨ (t.length : Int) ≤ y.right
        · rw [if_pos g1, if_pos (by simpa [or_assoc] using g1)]; simp
        · rw [if_neg g1, if_neg (by simpa [or_assoc] using g1)]
          by_cases g2 : y.value ≠ 0 ∨ y.left = y.right
          · rw [if_pos g2, if_pos (by simpa using g2)]; simp
          · rw [if_neg g2, if_neg (by simpa using g2)]; simp
    · have hi' : ¬ (i : Int) < (t.length : Int) := by omega
      simp only [hi', decide_false, Bool.false_eq_true, if_false]
      rw [List.drop_eq_nil_of_le (by omega), scanN]
theorem refTree_l2 (N : Nat) (t : List Node) (i : Int) (kn : Int → Option (Int × Int)) (hl : t.length ≤ 63) : ∀ (n k : Nat) (c : Int), k ≤ t.length → t.length - k < n → 0 ≤ c → c ≤ 2 * k →
    orchref1_Tree_l2 N t i kn n c (k : Int) = orchref1_Tree_j4 N i kn (c + links i (t.drop k))
  | 0, k, c, _, _, _, _ => by omega
  | n + 1, k, c, h1, h2, h3, h4 => by
    rw [orchref1_Tree_l2]
    by_cases hk : k < t.length
    · have hk' : (k : Int) < (t.length : Int) := by omega
      have ih := fun c h3 h4 => refTree_l2 N t i kn hl n (k + 1) c (by omega) (by omega) h3 h4
      simp only [hk', decide_true, if_true, ix_get t k hk, Option.bind_some, w64_succ k (by omega), orchref1_Tree_j5]
      rw [List.drop_eq_getElem_cons hk, links]
      generalize t[k] = y
      by_cases hf : y.feature = -1
      · simp only [hf, beq_self_eq_true, if_true]
        rw [ih c h3 (by omega), links1, if_pos hf]; congr 1; omega
      · have hf' : (y.feature == -1) = false := by simpa using hf
        simp only [hf', Bool.false_eq_true, if_false, links1, hf]
        by_cases hL : y.left = i <;> by_cases hR : y.right = i <;> simp only [hL, hR, beq_self_eq_true, beq_iff_eq, if_true, if_false]
        · rw [w64_id (n := c + 1) (by omega) (by omega), w64_id (by omega) (by omega), ih _ (by omega) (by omega)]; congr 1; omega
        · rw [w64_id (n := c + 1) (by omega) (by omega), ih _ (by omega) (by omega)]; congr 1; omega
        · rw [w64_id (n := c + 1) (by omega) (by omega), ih _ (by omega) (by omega)]; congr 1; omega
        · rw [ih _ (by omega) (by omega)]; congr 1; omega
    · have hk' : ¬ (k : Int) < (t.length : Int) := by omega
      simp only [hk', decide_false, Bool.false_eq_true, if_false]
      rw [List.drop_eq_nil_of_le (by omega), links, Int.add_zero]
theorem refTree_l1 (N : Nat) (t : List Node) (hl : t.length ≤ 63) (hN : 64 < N) : ∀ (n i : Nat), i ≤ t.length → t.length - i < n →
    orchref1_Tree_l1 N t n (i : Int) = match clash t (t.length - i) i with | some p => some (p, 7) | none => orchref1_Tree_j2 N t
  | 0, i, _, _ => by omega
  | n + 1, i, h1, h2 => by
    rw [orchref1_Tree_l1]
    by_cases hi : i < t.length
    · have hi' : (i : Int) < (t.length : Int) := by omega
      simp only [hi', decide_true, if_true]
      have e := refTree_l2 N t i (orchref1_Tree_l1 N t n) hl N 0 0 (by omega) (by omega) (by omega) (by omega)
      simp only [Int.cast_ofNat_Int, List.drop_zero, Int.zero_add] at e
      rw [e, show t.length - i = (t.length - (i + 1)) + 1 by omega, clash]
      unfold orchref1_Tree_j4 orchref1_Tree_j3
      by_cases h : links i t = 1
      · simp only [h, bne_self_eq_false, Bool.false_eq_true, if_false, if_true, w64_succ i (by omega)]
        rw [refTree_l1 N t hl hN n (i + 1) (by omega) (by omega)]
        have ec : ((i + 1 : Nat) : Int) = (i : Int) + 1 := by omega
        rw [ec]
      · have h' : (links i t != 1) = true := by simpa using h
        rw [if_pos h', if_neg h]
    · have hi' : ¬ (i : Int) < (t.length : Int) := by omega
      simp only [hi', decide_false, Bool.false_eq_true, if_false]
      rw [show t.length - i = 0 by omega, clash]
theorem refTree {N : Nat} (hN : 64 < N) (t : List Node) (F : Int) : orchref1_Tree N t F = some (treeF t F) := by
  unfold orchref1_Tree treeF
  by_cases h1 : t.length > 63
  · rw [if_pos h1, if_pos (by simp; omega)]
  · rw [if_neg h1, if_neg (by simp; omega)]
    by_cases h2 : t.length = 0
    · rw [if_pos h2, if_pos (by simpa using h2)]
    · rw [if_neg h2, if_neg (by simpa using h2)]
      by_cases h3 : F < 0 ∨ F > 8
      · rw [if_pos h3, if_pos (by simpa using h3)]
      · rw [if_neg h3, if_neg (by simpa using h3)]
        have e := refTree_l3 N t F (by omega) N 0 (by omega) (by omega)
        simp only [Int.cast_ofNat_Int, List.drop_zero] at e
        rw [e]
        cases hs : scanN F t.length t 0 with
        | some p => rfl
        | none =>
          simp only
          unfold orchref1_Tree_j1
          have e1 := refTree_l1 N t (by omega) hN N 1 (by omega) (by omega)
          simp only [Int.cast_ofNat_Int] at e1
          rw [e1]
          cases hc : clash t (t.length - 1) 1 with
          | some p => rfl
          | none =>
            simp only
            unfold orchref1_Tree_j2
            rw [refDepth (scanN_okN.1 hs) (by omega) N 0 (by omega) (by omega) (by omega)]
            simp only [Option.bind_some]
            by_cases h4 : dep t t.length 0 > 10
            · simp [h4]
            · simp [h4]

end Go.Dl
