/- Plain laws of the growing of one tree. -/
import Derived.Test.YtbalmknhjokgaaaDF
import Derived.Test.YtbalmknhjokgaaaDlP
set_option linter.unusedVariables false
namespace Go.Dl

def tsum : List Sample → Int
  | [] => 0
  | s :: l => s.target + tsum l
def Tb (l : List Sample) : Prop := ∀ s ∈ l, -1000 ≤ s.target ∧ s.target ≤ 1000
theorem tsum_bd : ∀ {l : List Sample}, Tb l → -(1000 * (l.length : Int)) ≤ tsum l ∧ tsum l ≤ 1000 * (l.length : Int)
  | [], _ => by simp [tsum]
  | s :: l, h => by
    have h1 := h s (by simp)
    have h2 := tsum_bd (l := l) (fun x hx => h x (List.mem_cons_of_mem _ hx))
    simp only [tsum, List.length_cons]
    omega
theorem Tb.drop {l : List Sample} (h : Tb l) (i : Nat) : Tb (l.drop i) := fun s hs => h s (List.mem_of_mem_drop hs)
theorem Tb.filter {l : List Sample} (h : Tb l) (p : Sample → Bool) : Tb (l.filter p) := fun s hs => h s (List.mem_filter.1 hs).1

theorem sum_l (N : Nat) (l : List Sample) (h : Tb l) (hl : l.length ≤ 1000) : ∀ (n i : Nat) (acc : Int), i ≤ l.length → l.length - i < n → -(1000 * (i : Int)) ≤ acc → acc ≤ 1000 * (i : Int) → grow_sum_l1 N l n acc (i : Int) = some (acc + tsum (l.drop i))
  | 0, i, acc, h1, h2, _, _ => by omega
  | n + 1, i, acc, h1, h2, h3, h4 => by
    rw [grow_sum_l1]
    by_cases hi : i < l.length
    · have hi' : (i : Int) < (l.length : Int) := by omega
      have hb := h l[i] (List.getElem_mem hi)
      simp only [hi', decide_true, if_true, ix_get l i hi, Option.bind_some, w64_succ i (by omega)]
      rw [w64_id (by omega) (by omega), sum_l N l h hl n (i + 1) _ (by omega) (by omega) (by omega) (by omega), List.drop_eq_getElem_cons hi]
      simp only [tsum]
      congr 1
      omega
    · have hi' : ¬ (i : Int) < (l.length : Int) := by omega
      simp only [hi', decide_false, Bool.false_eq_true, if_false, grow_sum_j1]
      rw [List.drop_eq_nil_of_le (by omega)]
      simp [tsum]
theorem sum_ok {N : Nat} {l : List Sample} (h : Tb l) (hl : l.length ≤ 1000) (hN : 1000 < N) : grow_sum N l = some (tsum l) := by
  have := sum_l N l h hl N 0 0 (by omega) (by omega) (by omega) (by omega)
  simpa [grow_sum] using this

/-- the cell of a row -/
def cell (s : Sample) (f : Int) : Int := s.row.getD f.toNat 0
def Wide (l : List Sample) (F : Int) : Prop := ∀ s ∈ l, (s.row.length : Int) = F
theorem Wide.filter {l : List Sample} {F : Int} (h : Wide l F) (p : Sample → Bool) : Wide (l.filter p) F := fun s hs => h s (List.mem_filter.1 hs).1
theorem ix_cell {s : Sample} {f F : Int} (h : (s.row.length : Int) = F) (h0 : 0 ≤ f) (h1 : f < F) : ix s.row f = some (cell s f) := by
  rw [ix_some _ _ h0 (by omega)]
  have : f.toNat < s.row.length := by omega
  simp [cell, this]
def lowP (f c : Int) (s : Sample) : Bool := decide (cell s f < c)

theorem part_l (N : Nat) (l : List Sample) (f c F : Int) (h : Wide l F) (h0 : 0 ≤ f) (h1 : f < F) (hl : l.length ≤ 1000) : ∀ (n i : Nat) (a b : List Sample), i ≤ l.length → l.length - i < n → a.length ≤ i → b.length ≤ i →
    grow_part_l1 N l f c n a b (i : Int) = some (a ++ (l.drop i).filter (lowP f c), b ++ (l.drop i).filter (fun s => !lowP f c s))
  | 0, i, a, b, _, _, _, _ => by omega
  | n + 1, i, a, b, h2, h3, h4, h5 => by
    rw [grow_part_l1]
    by_cases hi : i < l.length
    · have hi' : (i : Int) < (l.length : Int) := by omega
      have hw := h l[i] (List.getElem_mem hi)
      simp only [hi', decide_true, if_true, ix_get l i hi, Option.bind_some, w64_succ i (by omega), ix_cell hw h0 h1]
      rw [List.drop_eq_getElem_cons hi]
      by_cases hc : cell l[i] f < c
      · simp only [hc, decide_true, if_true]
        rw [app_ok _ _ (by simp [LIM]; omega)]
        simp only [Option.bind_some]
        rw [part_l N l f c F h h0 h1 hl n (i + 1) _ _ (by omega) (by omega) (by simp; omega) (by omega)]
        generalize List.drop (i + 1) l = m
        simp [List.filter_cons, lowP, hc]
      · simp only [hc, decide_false, Bool.false_eq_true, if_false]
        rw [app_ok _ _ (by simp [LIM]; omega)]
        simp only [Option.bind_some]
        rw [part_l N l f c F h h0 h1 hl n (i + 1) _ _ (by omega) (by omega) (by omega) (by simp; omega)]
        generalize List.drop (i + 1) l = m
        simp [List.filter_cons, lowP, hc]
    · have hi' : ¬ (i : Int) < (l.length : Int) := by omega
      simp only [hi', decide_false, Bool.false_eq_true, if_false, grow_part_j1]
      rw [List.drop_eq_nil_of_le (by omega)]
      simp
theorem part_ok {N : Nat} {l : List Sample} {f c F : Int} (h : Wide l F) (h0 : 0 ≤ f) (h1 : f < F) (hl : l.length ≤ 1000) (hN : 1000 < N) :
    grow_part N l f c = some (l.filter (lowP f c), l.filter (fun s => !lowP f c s)) := by
  have := part_l N l f c F h h0 h1 hl N 0 [] [] (by omega) (by omega) (by simp) (by simp)
  simpa [grow_part] using this
theorem part_len (l : List Sample) (p : Sample → Bool) : (l.filter p).length + (l.filter (fun s => !p s)).length = l.length := by
  induction l with
  | nil => rfl
  | cons s l ih => simp only [List.filter_cons]; cases p s <;> simp <;> omega
theorem part_sum (l : List Sample) (p : Sample → Bool) : tsum (l.filter p) + tsum (l.filter (fun s => !p s)) = tsum l := by
  induction l with
  | nil => rfl
  | cons s l ih => simp only [List.filter_cons]; cases p s <;> simp [tsum] <;> omega

/-- the list of cells -/
theorem cells_l (N : Nat) (l : List Sample) (f F least : Int) (kn : Int → Int → Int → Int → Int → Option (Int × Int)) (ft ct nm dn : Int) (h : Wide l F) (h0 : 0 ≤ f) (h1 : f < F) (hl : l.length ≤ 1000) : ∀ (n i : Nat) (a : List Int), i ≤ l.length → l.length - i < n → a.length ≤ i →
    grow_best_l3 N l f least kn ft ct nm dn n a (i : Int) = grow_best_j3 N l f least kn ft ct nm dn (a ++ (l.drop i).map (cell · f))
  | 0, i, a, _, _, _ => by omega
  | n + 1, i, a, h2, h3, h4 => by
    rw [grow_best_l3]
    by_cases hi : i < l.length
    · have hi' : (i : Int) < (l.length : Int) := by omega
      have hw := h l[i] (List.getElem_mem hi)
      simp only [hi', decide_true, if_true, ix_get l i hi, Option.bind_some, w64_succ i (by omega), ix_cell hw h0 h1]
      rw [app_ok _ _ (by simp [LIM]; omega)]
      simp only [Option.bind_some]
      rw [cells_l N l f F least kn ft ct nm dn h h0 h1 hl n (i + 1) _ (by omega) (by omega) (by simp; omega), List.drop_eq_getElem_cons hi]
      generalize List.drop (i + 1) l = m
      simp
    · have hi' : ¬ (i : Int) < (l.length : Int) := by omega
      simp only [hi', decide_false, Bool.false_eq_true, if_false]
      rw [List.drop_eq_nil_of_le (by omega)]
      simp

/-- the cuts that are tried -/
def cuts (l : List Sample) (f : Int) : List Int :=
  let a := isort (l.map (cell · f))
  ((Lib.compact a).take (Lib.compact a).length).drop (min 1 (a.length : Int)).toNat
theorem cuts_len (l : List Sample) (f : Int) : (cuts l f).length ≤ l.length := by
  unfold cuts
  have h1 := Lib.compact_length_le (isort (l.map (cell · f)))
  have h2 : (isort (l.map (cell · f))).length = l.length := by rw [isort_length]; simp
  simp only [List.length_drop, List.length_take]
  omega
theorem best_j3 (N : Nat) (l : List Sample) (f least : Int) (kn : Int → Int → Int → Int → Int → Option (Int × Int)) (ft ct nm dn : Int) (hl : l.length ≤ 1000) :
    grow_best_j3 N l f least kn ft ct nm dn (l.map (cell · f)) = grow_best_l2 N (cuts l f) l f least kn N ft ct nm dn 0 := by
  unfold grow_best_j3
  have h2 : (isort (l.map (cell · f))).length = l.length := by rw [isort_length]; simp
  have h1 := Lib.compact_length_le (isort (l.map (cell · f)))
  rw [sort_ok _ _ (by simp [LIM]; omega)]
  simp only [Option.bind_some]
  rw [compact_ok _ _ (by rw [h2]; simp [LIM]; omega)]
  simp only [Option.bind_some]
  rw [sub_ok _ _ _ (by omega) ?_ (by omega)]
  · simp only [Option.bind_some, cuts, Int.toNat_natCast]
  · by_cases hn : l = []
    · subst hn; rw [h2]; simp; omega
    · have := compact_pos (l := isort (l.map (cell · f))) (fun e => by
        have : (isort (l.map (cell · f))).length = 0 := by rw [e]; rfl
        rw [h2] at this
        exact hn (List.eq_nil_of_length_eq_zero this))
      omega
end Go.Dl
