/- Check of samples answers; what it passes is in bounds. -/
import Derived.Test.YtbalmknhjokgaaaPGrow
set_option linter.unusedVariables false
namespace Go.Dl

theorem index_l (N : Nat) (r : List Int) (x : Int) (hl : r.length ≤ 1000) : ∀ (n i : Nat), i ≤ r.length → r.length - i < n → ∃ k, slices_Index_l1 N r x n (i : Int) = some k
  | 0, i, _, _ => by omega
  | n + 1, i, h1, h2 => by
    rw [slices_Index_l1]
    by_cases hi : i < r.length
    · have hi' : (i : Int) < (r.length : Int) := by omega
      simp only [hi', decide_true, if_true, ix_get r i hi, Option.bind_some, w64_succ i (by omega)]
      split
      · exact ⟨_, rfl⟩
      · exact index_l N r x hl n (i + 1) (by omega) (by omega)
    · have hi' : ¬ (i : Int) < (r.length : Int) := by omega
      simp only [hi', decide_false, Bool.false_eq_true, if_false, slices_Index_j1]
      exact ⟨_, rfl⟩
theorem contains_tot {N : Nat} (r : List Int) (x : Int) (hl : r.length ≤ 1000) (hN : 1000 < N) : ∃ b, slices_Contains N r x = some b := by
  obtain ⟨k, hk⟩ := index_l N r x hl N 0 (by omega) (by omega)
  unfold slices_Contains slices_Index
  rw [show (0 : Int) = ((0 : Nat) : Int) from rfl, hk]
  exact ⟨_, rfl⟩
theorem rowcheck_l (N : Nat) (r : List Int) (hl : r.length ≤ 1000) : ∀ (n i : Nat), i ≤ r.length → r.length - i < n → ∃ k, row_Check_l1 N r n (i : Int) = some k
  | 0, i, _, _ => by omega
  | n + 1, i, h1, h2 => by
    rw [row_Check_l1]
    by_cases hi : i < r.length
    · have hi' : (i : Int) < (r.length : Int) := by omega
      simp only [hi', decide_true, if_true, ix_get r i hi, Option.bind_some, w64_succ i (by omega)]
      have hg : ∃ b, gd (r[i] != -1125899906842624) (cut_Cell N r[i]) false = some b := by
        unfold gd cut_Cell; split <;> exact ⟨_, rfl⟩
      obtain ⟨b, hb⟩ := hg
      rw [hb]
      simp only [Option.bind_some]
      split
      · exact ⟨_, rfl⟩
      · exact rowcheck_l N r hl n (i + 1) (by omega) (by omega)
    · have hi' : ¬ (i : Int) < (r.length : Int) := by omega
      simp only [hi', decide_false, Bool.false_eq_true, if_false, row_Check_j1]
      exact ⟨_, rfl⟩
theorem rowcheck_tot {N : Nat} (r : List Int) (hN : 1000 < N) : ∃ e, row_Check N r = some e ∧ (e = none → r.length ≤ 8) := by
  unfold row_Check
  split
  · exact ⟨_, rfl, fun h => by cases h⟩
  · rename_i h
    simp only [decide_eq_true_eq] at h
    obtain ⟨k, hk⟩ := rowcheck_l N r (by omega) N 0 (by omega) (by omega)
    exact ⟨k, hk, fun _ => by omega⟩

/-- a sample that may be learnt from -/
def Fine (F : Int) (s : Sample) : Prop := (s.row.length : Int) = F ∧ -1000 ≤ s.target ∧ s.target ≤ 1000
theorem check_l {N : Nat} (hN : 1000 < N) (l : List Sample) (F : Int) (hl : l.length ≤ 60) : ∀ (n i : Nat), i ≤ l.length → l.length - i < n → ∃ k e, grow_Check_l1 N l F n (i : Int) = some (k, e) ∧ (e = none → ∀ j (hj : j < l.length), i ≤ j → Fine F l[j])
  | 0, i, _, _ => by omega
  | n + 1, i, h1, h2 => by
    rw [grow_Check_l1]
    by_cases hi : i < l.length
    · have hi' : (i : Int) < (l.length : Int) := by omega
      simp only [hi', decide_true, if_true, ix_get l i hi, Option.bind_some, w64_succ i (by omega)]
      obtain ⟨e, he, hel⟩ := rowcheck_tot l[i].row hN
      rw [he]
      simp only [Option.bind_some]
      cases e with
      | some e => exact ⟨_, _, rfl, fun h => by cases h⟩
      | none =>
        simp only [Option.isSome_none, Bool.false_eq_true, if_false]
        split
        · exact ⟨_, _, rfl, fun h => by cases h⟩
        · rename_i ht
          split
          · exact ⟨_, _, rfl, fun h => by cases h⟩
          · rename_i hw
            obtain ⟨b, hb⟩ := contains_tot l[i].row (-1125899906842624) (by have := hel rfl; omega) hN
            rw [hb]
            simp only [Option.bind_some]
            split
            · exact ⟨_, _, rfl, fun h => by cases h⟩
            · obtain ⟨k, e, hk, hke⟩ := check_l hN l F hl n (i + 1) (by omega) (by omega)
              refine ⟨k, e, hk, fun h j hj hij => ?_⟩
              by_cases hji : j = i
              · subst hji
                simp only [Bool.or_eq_true, decide_eq_true_eq, not_or] at ht
                simp only [bne_iff_ne, ne_eq, Decidable.not_not] at hw
                exact ⟨hw, by omega, by omega⟩
              · exact hke h j hj (by omega)
    · have hi' : ¬ (i : Int) < (l.length : Int) := by omega
      simp only [hi', decide_false, Bool.false_eq_true, if_false, grow_Check_j1]
      exact ⟨_, _, rfl, fun _ j hj hij => by omega⟩
theorem check_tot {N : Nat} (hN : 1000 < N) (l : List Sample) (F : Int) : ∃ k e, grow_Check N l F = some (k, e) ∧ (e = none → 1 ≤ l.length ∧ l.length ≤ 60 ∧ 0 ≤ F ∧ F ≤ 8 ∧ ∀ s ∈ l, Fine F s) := by
  unfold grow_Check
  split
  · exact ⟨_, _, rfl, fun h => by cases h⟩
  · rename_i h1
    split
    · exact ⟨_, _, rfl, fun h => by cases h⟩
    · rename_i h2
      split
      · exact ⟨_, _, rfl, fun h => by cases h⟩
      · rename_i h3
        simp only [decide_eq_true_eq] at h1
        simp only [beq_iff_eq] at h2
        simp only [Bool.or_eq_true, decide_eq_true_eq, not_or] at h3
        obtain ⟨k, e, hk, hke⟩ := check_l hN l F (by omega) N 0 (by omega) (by omega)
        refine ⟨k, e, hk, fun h => ⟨by omega, by omega, by omega, by omega, fun s hs => ?_⟩⟩
        obtain ⟨j, hj, rfl⟩ := List.getElem_of_mem hs
        exact hke h j hj (by omega)
theorem least_eq (N : Nat) (x : Int) : grow_Least N x = some (decide (x ≥ 1) && decide (x ≤ 60)) := rfl
theorem fit_err {N : Nat} {l : List Sample} {F d least k e : Int} (h : grow_Check N l F = some (k, some e)) : grow_Fit N l F d least = some ([], some e) := by
  unfold grow_Fit
  rw [h]
  simp
theorem fit_bad {N : Nat} {l : List Sample} {F d least k : Int} (h : grow_Check N l F = some (k, none)) (hb : ¬ (0 ≤ d ∧ d ≤ 5 ∧ 1 ≤ least ∧ least ≤ 60)) : grow_Fit N l F d least = some ([], some 1) := by
  unfold grow_Fit
  rw [h]
  simp only [Option.bind_some, Option.isSome_none, Bool.false_eq_true, if_false, least_eq]
  by_cases h1 : (decide (d < 0) || decide (d > 5)) = true
  · simp only [h1, gd, Bool.not_true, Bool.false_eq_true, if_false, Option.bind_some, Bool.true_or, if_true]
  · have h1' : (decide (d < 0) || decide (d > 5)) = false := by simpa using h1
    have h2 : (decide (least ≥ 1) && decide (least ≤ 60)) = false := by
      simp only [Bool.or_eq_true, decide_eq_true_eq, not_or] at h1
      cases hc : (decide (least ≥ 1) && decide (least ≤ 60))
      · rfl
      · simp only [Bool.and_eq_true, decide_eq_true_eq] at hc
        exact absurd ⟨by omega, by omega, by omega, by omega⟩ hb
    simp only [h1', h2, gd, Bool.not_false, if_true, Option.bind_some, Bool.or_true, Bool.true_or]
theorem fit_eq {N : Nat} {l : List Sample} {F d least k : Int} (h : grow_Check N l F = some (k, none)) (hb : 0 ≤ d ∧ d ≤ 5 ∧ 1 ≤ least ∧ least ≤ 60) : grow_Fit N l F d least = (grow_Grow N [] l F d least).bind fun r => some (r, none) := by
  unfold grow_Fit
  rw [h]
  simp only [Option.bind_some, Option.isSome_none, Bool.false_eq_true, if_false, least_eq]
  have h1' : (decide (d < 0) || decide (d > 5)) = false := by simp; omega
  have h2 : (decide (least ≥ 1) && decide (least ≤ 60)) = true := by simp; omega
  simp only [h1', h2, gd, Bool.not_false, if_true, Option.bind_some, Bool.or_self, Bool.not_true, Bool.false_eq_true, if_false]
end Go.Dl
