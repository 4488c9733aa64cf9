/- How wrong a tree is. -/
import Derived.Test.YtbalmknhjokgaaaPGrowT
set_option linter.unusedVariables false
namespace Go.Dl

def readyF (t : List Node) : List Sample → Int
  | [] => 5
  | s :: l => if (treeF t s.row.length).2 ≠ 0 then (treeF t s.row.length).2 else (samplesF (s :: l) s.row.length).2
theorem ready_chk {N : Nat} (hN : 1000 < N) (t : List Node) (l : List Sample) : grow_Ready N t l = some (eo (readyF t l)) := by
  unfold grow_Ready
  cases l with
  | nil => rfl
  | cons s l =>
    rw [if_neg (by simp; omega), show (0 : Int) = ((0 : Nat) : Int) from rfl, ix_get (s :: l) 0 (by simp)]
    simp only [Option.bind_some, List.getElem_cons_zero]
    rw [chkTree (by omega), sam_chk hN]
    simp only [Option.bind_some, readyF]
    by_cases h : (treeF t s.row.length).2 = 0
    · simp [h, eo]
    · simp [h, eo]
def sq (x : Int) : Int := x * x
def wrongF (t : List Node) : List Sample → Int
  | [] => 0
  | s :: l => sq (s.target - valueOf t s.row) + wrongF t l
theorem sq_bd2 {x : Int} (h1 : -1001000 ≤ x) (h2 : x ≤ 1001000) : 0 ≤ sq x ∧ sq x ≤ 1002001000000 := by
  have h := (mul_bd (A := 1001000) (B := 1001000) h1 h2 h1 h2).2
  refine ⟨?_, h⟩
  unfold sq
  rcases Int.le_total 0 x with h | h
  · exact Int.mul_nonneg h h
  · have := Int.mul_nonneg (show 0 ≤ -x by omega) (show 0 ≤ -x by omega); grind
theorem wrong_l {N : Nat} (hN : 64 < N) {t : List Node} {F : Int} (hr : Right t F) (l : List Sample) (hw : Wide l F) (ht : Tb l) (hl : l.length ≤ 60) : ∀ (n i : Nat) (acc : Int), i ≤ l.length → l.length - i < n → 0 ≤ acc → acc ≤ 1002001000000 * i →
    grow_Wrong_l1 N l t n acc (i : Int) = some (acc + wrongF t (l.drop i), none)
  | 0, i, acc, _, _, _, _ => by omega
  | n + 1, i, acc, h1, h2, h3, h4 => by
    rw [grow_Wrong_l1]
    by_cases hi : i < l.length
    · have hi' : (i : Int) < (l.length : Int) := by omega
      have hw1 := hw l[i] (List.getElem_mem hi)
      have ht1 := ht l[i] (List.getElem_mem hi)
      have hv := valueOf_bd hr (r := l[i].row) (by omega)
      obtain ⟨a1, a2, a3⟩ := leafOf_in hr (r := l[i].row) (by omega)
      simp only [hi', decide_true, if_true, ix_get l i hi, Option.bind_some, w64_succ i (by omega)]
      rw [walk_ok hr (by omega) hN]
      simp only [Option.bind_some]
      rw [ix_nd a1 a2]
      simp only [Option.bind_some]
      have ev : (nd t (leafOf t l[i].row)).value = valueOf t l[i].row := rfl
      rw [ev, w64_id (n := l[i].target - valueOf t l[i].row) (by omega) (by omega)]
      have hs := sq_bd2 (x := l[i].target - valueOf t l[i].row) (by omega) (by omega)
      have es : (l[i].target - valueOf t l[i].row) * (l[i].target - valueOf t l[i].row) = sq (l[i].target - valueOf t l[i].row) := rfl
      rw [es, w64_id (n := sq _) (by omega) (by omega), w64_id (n := acc + _) (by omega) (by omega), wrong_l hN hr l hw ht hl n (i + 1) _ (by omega) (by omega) (by omega) (by omega), List.drop_eq_getElem_cons hi, wrongF]
      congr 2; omega
    · have hi' : ¬ (i : Int) < (l.length : Int) := by omega
      simp only [hi', decide_false, Bool.false_eq_true, if_false, grow_Wrong_j1]
      rw [List.drop_eq_nil_of_le (by omega)]; simp [wrongF]
theorem ready_ok {t : List Node} {l : List Sample} (h : readyF t l = 0) : ∃ F, Right t F ∧ Sams l F := by
  cases l with
  | nil => simp [readyF] at h
  | cons s l =>
    rw [readyF] at h
    split at h
    · contradiction
    · rename_i h1
      exact ⟨_, right_iff.1 (by omega), sams_of h⟩
theorem wrong_ok {N : Nat} (hN : 1000 < N) (t : List Node) (l : List Sample) : grow_Wrong N t l = if readyF t l = 0 then some (wrongF t l, none) else some (0, some (readyF t l)) := by
  unfold grow_Wrong
  rw [ready_chk hN]
  simp only [Option.bind_some]
  by_cases h : readyF t l = 0
  · obtain ⟨F, hr, hs⟩ := ready_ok h
    have := wrong_l (N := N) (by omega) hr l hs.wide hs.tb hs.len1 N 0 0 (by omega) (by have := hs.len1; omega) (by omega) (by omega)
    simp only [List.drop_zero, Int.cast_ofNat_Int, Int.zero_add] at this
    simp [h, eo, this]
  · simp [h, eo]
end Go.Dl
