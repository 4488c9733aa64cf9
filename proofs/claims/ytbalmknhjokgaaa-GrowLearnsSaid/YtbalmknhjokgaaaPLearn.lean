/- What a grown tree is: its leaves, how wrong it is. -/
import Derived.Test.YtbalmknhjokgaaaPLay
import Derived.Test.YtbalmknhjokgaaaPWrong
set_option linter.unusedVariables false
namespace Go.Dl

/-- a sample with all cells there -/
def Whole (F : Int) (s : Sample) : Prop := (s.row.length : Int) = F ∧ ∀ c ∈ s.row, isCell c = true ∧ c ≠ NIL
def Wholes (F : Int) (l : List Sample) : Prop := ∀ s ∈ l, Whole F s
theorem Sams.wholes {l : List Sample} {F : Int} (h : Sams l F) : Wholes F l := fun s hs => ⟨h.wide s hs, (samF_ok (h.fine s hs)).2.2⟩
theorem Wholes.wide {l : List Sample} {F : Int} (h : Wholes F l) : Wide l F := fun s hs => (h s hs).1
theorem Wholes.low {l : List Sample} {F : Int} (h : Wholes F l) (f c : Int) : Wholes F (lowS l f c) := fun s hs => h s (List.mem_filter.1 hs).1
theorem Wholes.high {l : List Sample} {F : Int} (h : Wholes F l) (f c : Int) : Wholes F (highS l f c) := fun s hs => h s (List.mem_filter.1 hs).1
theorem Whole.cell {F f : Int} {s : Sample} (h : Whole F s) (h0 : 0 ≤ f) (h1 : f < F) : isCell (cell s f) = true ∧ cell s f ≠ NIL := by
  have hl := h.1
  have hf : f.toNat < s.row.length := by omega
  have : Dl.cell s f = s.row[f.toNat] := by simp [Dl.cell, hf]
  rw [this]
  exact h.2 _ (List.getElem_mem hf)
theorem goL_low {F f c : Int} {less : Bool} {s : Sample} (h : Whole F s) (h0 : 0 ≤ f) (h1 : f < F) : goL f c less s.row ↔ lowP f c s = true := by
  have hc := (h.cell h0 h1).2
  have e : cellR s.row f = cell s f := rfl
  unfold goL lowP
  rw [e]
  simp [hc]

def TFit (F least : Int) : T → List Sample → Prop
  | .leaf v, l => 1 ≤ l.length ∧ v = tsum l / l.length
  | .node f c _ a b, l => 0 ≤ f ∧ f < F ∧ may l least f c ∧ TFit F least a (lowS l f c) ∧ TFit F least b (highS l f c)
theorem growT_fit {F least : Int} (hl0 : 1 ≤ least) (hF : 0 ≤ F) : ∀ (d : Nat) (l : List Sample), 1 ≤ l.length → TFit F least (growT F least d l) l
  | 0, l, h => ⟨h, rfl⟩
  | d + 1, l, h => by
    rw [growT]
    split
    · exact ⟨h, rfl⟩
    · rename_i hf
      obtain ⟨m1, m2, m3⟩ := best_may (l := l) (F := F) (least := least) hl0 h hF
      obtain ⟨m4, m5⟩ := m3 (by omega)
      exact ⟨by omega, m5, m4, growT_fit hl0 hF d _ (by have := m4.1; omega), growT_fit hl0 hF d _ (by have := m4.2; omega)⟩
theorem mean_bd {l : List Sample} (ht : Tb l) (h : 1 ≤ l.length) : -1000 ≤ tsum l / l.length ∧ tsum l / l.length ≤ 1000 := by
  have := tsum_bd ht
  exact ⟨Int.le_ediv_of_mul_le (by omega) (by omega), Int.ediv_le_of_le_mul (by omega) (by omega)⟩
theorem growT_ok {F least : Int} (hl0 : 1 ≤ least) (hF : 0 ≤ F) : ∀ (d : Nat) (l : List Sample), 1 ≤ l.length → Tb l → Wholes F l → TOk F (growT F least d l)
  | 0, l, h, ht, hw => by
    have := mean_bd ht h
    exact isCell_iff.2 (by omega)
  | d + 1, l, h, ht, hw => by
    rw [growT]
    split
    · have := mean_bd ht h
      exact isCell_iff.2 (by omega)
    · rename_i hf
      obtain ⟨m1, m2, m3⟩ := best_may (l := l) (F := F) (least := least) hl0 h hF
      obtain ⟨m4, m5⟩ := m3 (by omega)
      refine ⟨by omega, m5, ?_, growT_ok hl0 hF d _ (by have := m4.1; omega) (ht.low _ _) (hw.low _ _), growT_ok hl0 hF d _ (by have := m4.2; omega) (ht.high _ _) (hw.high _ _)⟩
      rcases bestS_is (F := F) (least := least) hl0 h hF with ⟨h1, _⟩ | ⟨h1, ⟨_, _, s, hs, h2⟩, _⟩
      · omega
      · rw [← h2]
        exact ((hw s hs).cell (by omega) m5).1
theorem growT_depth (F least : Int) : ∀ (d : Nat) (l : List Sample), (growT F least d l).depth ≤ d
  | 0, l => by simp [growT, T.depth]
  | d + 1, l => by
    rw [growT]
    split
    · simp only [T.depth]; omega
    · simp only [T.depth]
      have a := growT_depth F least d (lowS l (bestS l F least).ft (bestS l F least).ct)
      have b := growT_depth F least d (highS l (bestS l F least).ft (bestS l F least).ct)
      omega

/-! ### leaves -/
/-- the samples that come to a place -/
def comes (x : T) (i k : Int) (l : List Sample) : List Sample := l.filter fun s => x.ix s.row i == k
theorem leaf_comes {F least : Int} {t : List Node} : ∀ {x : T} {i : Nat} {l : List Sample}, At t i x → TFit F least x l → Wholes F l → ∀ k : Nat, i ≤ k → k < i + x.size → (nd t k).feature = -1 →
    1 ≤ (comes x i k l).length ∧ (x.size = 1 → comes x i k l = l) ∧ (1 < x.size → least ≤ (comes x i k l).length) ∧ (nd t k).value = tsum (comes x i k l) / (comes x i k l).length
  | .leaf v, i, l, h, hf, hw, k, h1, h2, h3 => by
    simp only [T.size] at h2
    obtain rfl : k = i := by omega
    have e : comes (.leaf v) k k l = l := by
      unfold comes
      rw [List.filter_eq_self]
      intro s _
      simp [T.ix]
    rw [e]
    refine ⟨hf.1, fun _ => rfl, fun h => by simp [T.size] at h, ?_⟩
    rw [h.leaf]; exact hf.2
  | .node f c less a b, i, l, h, hf, hw, k, h1, h2, h3 => by
    obtain ⟨n1, n2, n3⟩ := h.node
    obtain ⟨f1, f2, f3, f4, f5⟩ := hf
    simp only [T.size] at h2
    have sa := a.size_pos
    have sb := b.size_pos
    have hki : k ≠ i := by
      intro e
      subst e
      rw [n1] at h3
      simp only at h3
      omega
    by_cases hk : k < i + 1 + a.size
    · have e : comes (.node f c less a b) i k l = comes a ((i + 1 : Nat) : Int) k (lowS l f c) := by
        unfold comes lowS
        rw [List.filter_filter]
        refine List.filter_congr fun s hs => ?_
        have hg := goL_low (c := c) (less := less) (hw s hs) f1 f2
        have hb := T.ix_in s.row b ((i : Int) + 1 + a.size)
        rw [T.ix]
        by_cases hl : goL f c less s.row
        · rw [if_pos hl, hg.1 hl]; simp
        · have hl' : lowP f c s = false := by
            cases hx : lowP f c s
            · rfl
            · exact absurd (hg.2 hx) hl
          rw [if_neg hl, hl', Bool.and_false]
          rw [beq_eq_false_iff_ne]
          omega
      rw [e]
      obtain ⟨g1, g2, g3, g4⟩ := leaf_comes n2 f4 (hw.low f c) k (by omega) (by omega) h3
      refine ⟨g1, fun hs => by simp only [T.size] at hs; omega, fun _ => ?_, g4⟩
      by_cases hs : a.size = 1
      · rw [g2 hs]; exact f3.1
      · exact g3 (by omega)
    · have e : comes (.node f c less a b) i k l = comes b ((i + 1 + a.size : Nat) : Int) k (highS l f c) := by
        unfold comes highS
        rw [List.filter_filter]
        refine List.filter_congr fun s hs => ?_
        have hg := goL_low (c := c) (less := less) (hw s hs) f1 f2
        have ha := T.ix_in s.row a ((i : Int) + 1)
        rw [T.ix]
        by_cases hl : goL f c less s.row
        · rw [if_pos hl, hg.1 hl, Bool.not_true, Bool.and_false]
          rw [beq_eq_false_iff_ne]
          omega
        · have hl' : lowP f c s = false := by
            cases hx : lowP f c s
            · rfl
            · exact absurd (hg.2 hx) hl
          rw [if_neg hl, hl']; simp
      rw [e]
      obtain ⟨g1, g2, g3, g4⟩ := leaf_comes n3 f5 (hw.high f c) k (by omega) (by omega) h3
      refine ⟨g1, fun hs => by simp only [T.size] at hs; omega, fun _ => ?_, g4⟩
      by_cases hs : b.size = 1
      · rw [g2 hs]; exact f3.2
      · exact g3 (by omega)

/-! ### how wrong -/
def wrT (x : T) : List Sample → Int
  | [] => 0
  | s :: l => sq (s.target - x.val s.row) + wrT x l
theorem wrong_lay {F : Int} {x : T} (ho : TOk F x) : ∀ l : List Sample, wrongF (lay x 0) l = wrT x l
  | [] => rfl
  | s :: l => by rw [wrongF, wrT, lay_value ho, wrong_lay ho l]
theorem wrT_node {F f c : Int} {less : Bool} {a b : T} (h0 : 0 ≤ f) (h1 : f < F) : ∀ {l : List Sample}, Wholes F l → wrT (.node f c less a b) l = wrT a (lowS l f c) + wrT b (highS l f c)
  | [], _ => rfl
  | s :: l, hw => by
    have hg := goL_low (c := c) (less := less) (hw s (by simp)) h0 h1
    have ih := wrT_node (c := c) (less := less) (a := a) (b := b) h0 h1 (l := l) (fun x hx => hw x (by simp [hx]))
    unfold lowS highS at ih ⊢
    rw [wrT, ih, T.val, List.filter_cons, List.filter_cons]
    by_cases hl : goL f c less s.row
    · rw [if_pos hl, hg.1 hl]
      simp only [if_true, Bool.not_true, Bool.false_eq_true, if_false, wrT]; omega
    · have hl' : lowP f c s = false := by
        cases hx : lowP f c s
        · rfl
        · exact absurd (hg.2 hx) hl
      rw [if_neg hl, hl']
      simp only [Bool.not_false, if_true, Bool.false_eq_true, if_false, wrT]; omega
theorem wrT_part (v : Int) (p : Sample → Bool) : ∀ l : List Sample, wrT (.leaf v) l = wrT (.leaf v) (l.filter p) + wrT (.leaf v) (l.filter fun s => !p s)
  | [] => rfl
  | s :: l => by
    have ih := wrT_part v p l
    rw [List.filter_cons, List.filter_cons, wrT, ih]
    cases p s <;> simp only [Bool.not_false, Bool.not_true, if_true, Bool.false_eq_true, if_false, wrT] <;> omega
def q2 : List Sample → Int
  | [] => 0
  | s :: l => s.target * s.target + q2 l
theorem wrT_leaf (v : Int) : ∀ l : List Sample, wrT (.leaf v) l = q2 l - 2 * v * tsum l + l.length * (v * v)
  | [] => by simp [wrT, q2, tsum]
  | s :: l => by
    rw [wrT, wrT_leaf v l, q2, tsum, List.length_cons, T.val, sq]
    push_cast
    grind
theorem mean_best {l : List Sample} (h : 1 ≤ l.length) (c : Int) : wrT (.leaf (tsum l / l.length)) l ≤ wrT (.leaf c) l + l.length := by
  rw [wrT_leaf, wrT_leaf]
  have hn : (0 : Int) < l.length := by omega
  have e1 := Int.mul_ediv_add_emod (tsum l) l.length
  have e2 := Int.emod_nonneg (tsum l) (show (l.length : Int) ≠ 0 by omega)
  have e3 := Int.emod_lt_of_pos (tsum l) hn
  generalize (tsum l % (l.length : Int)) = r at *
  generalize tsum l / (l.length : Int) = v at *
  generalize (l.length : Int) = n at *
  obtain ⟨d, rfl⟩ : ∃ d, c = v + d := ⟨c - v, by omega⟩
  have key : 2 * d * r ≤ n * (d * d + 1) := by
    have s1 : 0 ≤ (d - 1) * (d - 1) := by
      rcases Int.le_total 0 (d - 1) with h | h
      · exact Int.mul_nonneg h h
      · have := Int.mul_nonneg (show 0 ≤ -(d - 1) by omega) (show 0 ≤ -(d - 1) by omega); grind
    rcases Int.le_total 0 d with hd | hd
    · have a1 := Int.mul_nonneg (show 0 ≤ n by omega) s1
      have a2 := Int.mul_nonneg (show 0 ≤ 2 * d by omega) (show 0 ≤ n - r by omega)
      grind
    · have a1 := Int.mul_nonneg (show 0 ≤ 2 * -d by omega) e2
      have a3 : 0 ≤ d * d := by have := Int.mul_nonneg (show 0 ≤ -d by omega) (show 0 ≤ -d by omega); grind
      have a2 := Int.mul_nonneg (show 0 ≤ n by omega) (show 0 ≤ d * d + 1 by omega)
      grind
  rw [← e1]
  grind
theorem wr_step {F least : Int} (hl0 : 1 ≤ least) (hF : 0 ≤ F) : ∀ (d : Nat) (l : List Sample), 1 ≤ l.length → Wholes F l → wrT (growT F least (d + 1) l) l ≤ wrT (growT F least d l) l + l.length
  | d, l, h, hw => by
    rw [growT]
    split
    · rename_i hf
      have e : growT F least d l = .leaf (tsum l / l.length) := by
        cases d with
        | zero => rfl
        | succ d => rw [growT, if_pos hf]
      rw [e]; omega
    · rename_i hf
      obtain ⟨m1, m2, m3⟩ := best_may (l := l) (F := F) (least := least) hl0 h hF
      obtain ⟨m4, m5⟩ := m3 (by omega)
      have hlen := part_len l (lowP (bestS l F least).ft (bestS l F least).ct)
      have g1 : 1 ≤ (lowS l (bestS l F least).ft (bestS l F least).ct).length := by have := m4.1; omega
      have g2 : 1 ≤ (highS l (bestS l F least).ft (bestS l F least).ct).length := by have := m4.2; omega
      rw [wrT_node (by omega) m5 hw]
      cases d with
      | zero =>
        have a1 := mean_best g1 (tsum l / l.length)
        have a2 := mean_best g2 (tsum l / l.length)
        have a3 := wrT_part (tsum l / l.length) (lowP (bestS l F least).ft (bestS l F least).ct) l
        unfold lowS highS at *
        simp only [growT]
        omega
      | succ d =>
        have a1 := wr_step hl0 hF d _ g1 (hw.low _ _)
        have a2 := wr_step hl0 hF d _ g2 (hw.high _ _)
        have e : growT F least (d + 1) l = .node (bestS l F least).ft (bestS l F least).ct (decide (((lowS l (bestS l F least).ft (bestS l F least).ct).length : Int) > ((highS l (bestS l F least).ft (bestS l F least).ct).length : Int)))
          (growT F least d (lowS l (bestS l F least).ft (bestS l F least).ct)) (growT F least d (highS l (bestS l F least).ft (bestS l F least).ct)) := by rw [growT, if_neg hf]
        rw [e, wrT_node (by omega) m5 hw]
        unfold lowS highS at *
        omega
  termination_by d => d
end Go.Dl
