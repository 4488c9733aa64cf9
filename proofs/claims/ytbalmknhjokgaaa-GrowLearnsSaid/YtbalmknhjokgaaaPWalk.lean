/- The way of a row through a tree; what is wrong with rows and samples. -/
import Derived.Test.YtbalmknhjokgaaaPTree
import Derived.Test.YtbalmknhjokgaaaPCheck
set_option linter.unusedVariables false
namespace Go.Dl

/-- a tree that is right -/
structure Right (t : List Node) (F : Int) : Prop where
  len0 : 0 < t.length
  len1 : t.length ≤ 63
  f0 : 0 ≤ F
  f8 : F ≤ 8
  ok : OkN F t
  up : ∀ i : Int, 1 ≤ i → i < t.length → links i t = 1
  deep : dep t t.length 0 ≤ 10

theorem clash_none {t : List Node} : ∀ {k : Nat} {i : Int}, clash t k i = none ↔ ∀ j : Int, i ≤ j → j < i + k → links j t = 1
  | 0, i => by
    constructor
    · intro _ j h1 h2; omega
    · intro _; rfl
  | k + 1, i => by
    rw [clash]
    constructor
    · intro h j h1 h2
      split at h
      · rename_i h0
        by_cases hj : j = i
        · rw [hj]; exact h0
        · exact clash_none.1 h j (by omega) (by omega)
      · cases h
    · intro h
      rw [if_pos (h i (by omega) (by omega)), clash_none]
      intro j h1 h2
      exact h j (by omega) (by omega)
theorem scanN_ne {F len : Int} : ∀ {l : List Node} {i : Int} {p : Int × Int}, scanN F len l i = some p → p.2 ≠ 0
  | [], i, p, h => by simp [scanN] at h
  | n :: l, i, p, h => by
    rw [scanN] at h
    split at h
    · exact scanN_ne h
    · cases h; assumption
theorem right_iff {t : List Node} {F : Int} : (treeF t F).2 = 0 ↔ Right t F := by
  unfold treeF
  constructor
  · intro h
    split at h
    · simp at h
    split at h
    · simp at h
    split at h
    · simp at h
    split at h
    · rename_i hs; exact absurd h (scanN_ne hs)
    split at h
    · simp at h
    · rename_i hs _ hc
      split at h
      · simp at h
      · rename_i hd
        exact ⟨by omega, by omega, by omega, by omega, scanN_okN.1 hs, fun i h1 h2 => clash_none.1 hc i h1 (by omega), by omega⟩
  · intro h
    have hl0 := h.len0; have hl1 := h.len1; have hf0 := h.f0; have hf8 := h.f8; have hd := h.deep
    rw [if_neg (by omega), if_neg (by omega), if_neg (by omega), scanN_okN.2 h.ok, clash_none.2 (fun j h1 h2 => h.up j h1 (by omega))]
    simp only
    rw [if_neg (by omega)]
theorem treeF_right {t : List Node} {F : Int} (h : Right t F) : treeF t F = (0, 0) := by
  have hl0 := h.len0; have hl1 := h.len1; have hf0 := h.f0; have hf8 := h.f8; have hd := h.deep
  unfold treeF
  rw [if_neg (by omega), if_neg (by omega), if_neg (by omega), scanN_okN.2 h.ok, clash_none.2 (fun j h1 h2 => h.up j h1 (by omega))]
  simp only
  rw [if_neg (by omega)]

def stepN (n : Node) (c : Int) : Int := if (c = NIL ∧ n.less = true) ∨ (c ≠ NIL ∧ c < n.cut) then n.left else n.right
def cellR (r : List Int) (f : Int) : Int := r.getD f.toNat 0
def walk (t : List Node) (r : List Int) : Nat → Int → Int
  | 0, i => i
  | k + 1, i => if (nd t i).feature = -1 then i else walk t r k (stepN (nd t i) (cellR r (nd t i).feature))
def way (t : List Node) (r : List Int) : Nat → Int → List Int
  | 0, _ => []
  | k + 1, i => if (nd t i).feature = -1 then [] else stepN (nd t i) (cellR r (nd t i).feature) :: way t r k (stepN (nd t i) (cellR r (nd t i).feature))
theorem ix_cellR {r : List Int} {f : Int} (h0 : 0 ≤ f) (h1 : f < r.length) : ix r f = some (cellR r f) := by
  rw [ix_some _ _ h0 h1]
  have : f.toNat < r.length := by omega
  simp [cellR, this]
theorem next_eq (N : Nat) (n : Node) (c : Int) : tree_Next N n c = some (stepN n c) := by
  unfold tree_Next stepN
  by_cases h : (c = NIL ∧ n.less = true) ∨ (c ≠ NIL ∧ c < n.cut)
  · rw [if_pos h, if_pos (by simpa using h)]
  · rw [if_neg h, if_neg (by simpa using h)]
theorem stepN_or (n : Node) (c : Int) : stepN n c = n.left ∨ stepN n c = n.right := by
  unfold stepN; split <;> simp

section
variable {F : Int} {t : List Node} (ho : OkN F t) {r : List Int} (hr : F ≤ r.length) (hl : t.length ≤ 63)
include ho hr
theorem okN_step {i : Int} (h0 : 0 ≤ i) (h1 : i < t.length) (hf : (nd t i).feature ≠ -1) : i < stepN (nd t i) (cellR r (nd t i).feature) ∧ stepN (nd t i) (cellR r (nd t i).feature) < t.length := by
  have _hr := hr
  obtain ⟨_, _, _, a1, a2, a3, a4, _⟩ := okN_node ho h0 h1 hf
  rcases stepN_or (nd t i) (cellR r (nd t i).feature) with h | h <;> rw [h] <;> omega
theorem walk_st : ∀ (k k' : Nat) (i : Int), 0 ≤ i → i < t.length → (t.length : Int) - i ≤ k → (t.length : Int) - i ≤ k' → walk t r k i = walk t r k' i
  | 0, _, i, _, _, _, _ => by omega
  | _ + 1, 0, i, _, _, _, _ => by omega
  | k + 1, k' + 1, i, h0, h1, h2, h3 => by
    rw [walk, walk]
    split
    · rfl
    · rename_i hf
      obtain ⟨a1, a2⟩ := okN_step ho hr h0 h1 hf
      exact walk_st k k' _ (by omega) a2 (by omega) (by omega)
theorem way_st : ∀ (k k' : Nat) (i : Int), 0 ≤ i → i < t.length → (t.length : Int) - i ≤ k → (t.length : Int) - i ≤ k' → way t r k i = way t r k' i
  | 0, _, i, _, _, _, _ => by omega
  | _ + 1, 0, i, _, _, _, _ => by omega
  | k + 1, k' + 1, i, h0, h1, h2, h3 => by
    rw [way, way]
    split
    · rfl
    · rename_i hf
      obtain ⟨a1, a2⟩ := okN_step ho hr h0 h1 hf
      rw [way_st k k' _ (by omega) a2 (by omega) (by omega)]
theorem walk_in : ∀ (k : Nat) (i : Int), 0 ≤ i → i < t.length → (t.length : Int) - i ≤ k → i ≤ walk t r k i ∧ walk t r k i < t.length ∧ (nd t (walk t r k i)).feature = -1
  | 0, i, _, _, _ => by omega
  | k + 1, i, h0, h1, h2 => by
    rw [walk]
    split
    · exact ⟨by omega, h1, by assumption⟩
    · rename_i hf
      obtain ⟨a1, a2⟩ := okN_step ho hr h0 h1 hf
      obtain ⟨b1, b2, b3⟩ := walk_in k _ (by omega) a2 (by omega)
      exact ⟨by omega, b2, b3⟩
theorem way_len : ∀ (k : Nat) (i : Int), 0 ≤ i → i < t.length → (way t r k i).length ≤ t.length - 1 - i
  | 0, i, _, _ => by simp only [way, List.length_nil]; omega
  | k + 1, i, h0, h1 => by
    rw [way]
    split
    · simp only [List.length_nil]; omega
    · rename_i hf
      obtain ⟨a1, a2⟩ := okN_step ho hr h0 h1 hf
      have := way_len k _ (by omega) a2
      simp only [List.length_cons]; omega
theorem walk_l (N : Nat) : ∀ (n : Nat) (i : Int), 0 ≤ i → i < t.length → (t.length : Int) - i < n → tree_Walk_l1 N t r n i = some (walk t r t.length i)
  | 0, i, _, _, _ => by omega
  | n + 1, i, h0, h1, h2 => by
    rw [tree_Walk_l1, ix_nd h0 h1, walk_st ho hr t.length (t.length + 1) i h0 h1 (by omega) (by omega), walk]
    simp only [Option.bind_some]
    by_cases hf : (nd t i).feature = -1
    · simp [hf, tree_Walk_j1]
    · obtain ⟨b0, b1, _⟩ := okN_node ho h0 h1 hf
      obtain ⟨a1, a2⟩ := okN_step ho hr h0 h1 hf
      have hf' : ((nd t i).feature != -1) = true := by simpa using hf
      rw [if_pos hf', if_neg hf, ix_cellR b0 (by omega)]
      simp only [Option.bind_some, next_eq]
      exact walk_l N n _ (by omega) a2 (by omega)
end
def leafOf (t : List Node) (r : List Int) : Int := walk t r t.length 0
def valueOf (t : List Node) (r : List Int) : Int := (nd t (leafOf t r)).value
theorem walk_ok {N : Nat} {F : Int} {t : List Node} {r : List Int} (h : Right t F) (hr : F ≤ r.length) (hN : 64 < N) : tree_Walk N t r = some (leafOf t r) := by
  have h1 := h.len0; have h2 := h.len1
  unfold tree_Walk
  exact walk_l h.ok hr N N 0 (by omega) (by omega) (by omega)
theorem leafOf_in {F : Int} {t : List Node} {r : List Int} (h : Right t F) (hr : F ≤ r.length) : 0 ≤ leafOf t r ∧ leafOf t r < t.length ∧ (nd t (leafOf t r)).feature = -1 := by
  have h1 := h.len0
  exact walk_in h.ok hr t.length 0 (by omega) (by omega) (by omega)
theorem okN_leaf {F : Int} {t : List Node} (ho : OkN F t) {i : Int} (h0 : 0 ≤ i) (h1 : i < t.length) (hf : (nd t i).feature = -1) : isCell (nd t i).value = true ∧ (nd t i).cut = 0 ∧ (nd t i).left = 0 ∧ (nd t i).right = 0 ∧ (nd t i).less = false := by
  obtain ⟨k, rfl⟩ := Int.eq_ofNat_of_zero_le h0
  have hk : k < t.length := by omega
  have := ho k hk
  rw [← nd_eq hk] at this
  exact leaf_ok this hf
theorem valueOf_bd {F : Int} {t : List Node} {r : List Int} (h : Right t F) (hr : F ≤ r.length) : -1000000 ≤ valueOf t r ∧ valueOf t r ≤ 1000000 := by
  obtain ⟨a1, a2, a3⟩ := leafOf_in h hr
  exact isCell_iff.1 (okN_leaf h.ok a1 a2 a3).1
/-! ### rows and samples -/
def badC (c : Int) : Bool := !isCell c && c != NIL
def rowF (r : List Int) : Int := if r.length > 8 then 4 else if r.any badC then 1 else 0
theorem row_chk_l (N : Nat) (r : List Int) (hl : r.length ≤ 1000) : ∀ (n i : Nat), i ≤ r.length → r.length - i < n → row_Check_l1 N r n (i : Int) = some (eo (if (r.drop i).any badC then 1 else 0))
  | 0, i, _, _ => by omega
  | n + 1, i, h1, h2 => by
    rw [row_Check_l1]
    by_cases hi : i < r.length
    · have hi' : (i : Int) < (r.length : Int) := by omega
      simp only [hi', decide_true, if_true, ix_get r i hi, Option.bind_some, w64_succ i (by omega)]
      rw [List.drop_eq_getElem_cons hi, List.any_cons, row_chk_l N r hl n (i + 1) (by omega) (by omega)]
      by_cases hn : r[i] = NIL
      · have e : badC NIL = false := by decide
        simp [gd, hn, e]
      · have hn' : (r[i] != NIL) = true := by simpa using hn
        have e : badC r[i] = !isCell r[i] := by simp [badC, hn']
        simp only [gd, hn', if_true, cell_cut, Option.bind_some, Bool.true_and, e]
        cases isCell r[i] <;> simp [eo]
    · have hi' : ¬ (i : Int) < (r.length : Int) := by omega
      simp only [hi', decide_false, Bool.false_eq_true, if_false, row_Check_j1]
      rw [List.drop_eq_nil_of_le (by omega)]; simp [eo]
theorem row_chk {N : Nat} (hN : 1000 < N) (r : List Int) : row_Check N r = some (eo (rowF r)) := by
  unfold row_Check rowF
  by_cases h : r.length > 8
  · rw [if_pos h, if_pos (by simp; omega)]; rfl
  · rw [if_neg h, if_neg (by simp; omega)]
    have := row_chk_l N r (by omega) N 0 (by omega) (by omega)
    simpa using this
theorem rowF_len {r : List Int} (h : rowF r = 0) : r.length ≤ 8 := by
  unfold rowF at h
  split at h
  · simp at h
  · omega
theorem rowF_cell {r : List Int} (h : rowF r = 0) : ∀ c ∈ r, isCell c = true ∨ c = NIL := by
  unfold rowF at h
  split at h
  · simp at h
  · split at h
    · simp at h
    · rename_i hb
      intro c hc
      simp only [List.any_eq_true, not_exists, not_and] at hb
      have := hb c hc
      unfold badC at this
      cases h1 : isCell c
      · right; simpa [h1] using this
      · left; rfl

def samF (F : Int) (s : Sample) : Int :=
  if rowF s.row ≠ 0 then rowF s.row else if s.target < -1000 ∨ s.target > 1000 then 1 else if (s.row.length : Int) ≠ F then 3 else if s.row.any (· == NIL) then 5 else 0
def scanS (F : Int) : List Sample → Int → Int × Int
  | [], _ => (0, 0)
  | s :: l, i => if samF F s = 0 then scanS F l (i + 1) else (i, samF F s)
def samplesF (l : List Sample) (F : Int) : Int × Int :=
  if l.length > 60 then (0, 4) else if l.length = 0 then (0, 5) else if F < 0 ∨ F > 8 then (0, 1) else scanS F l 0
theorem contains_l (N : Nat) (r : List Int) (x : Int) (hl : r.length ≤ 1000) : ∀ (n i : Nat), i ≤ r.length → r.length - i < n → ∃ k, slices_Index_l1 N r x n (i : Int) = some k ∧ (decide (k ≥ 0) = (r.drop i).any (· == x))
  | 0, i, _, _ => by omega
  | n + 1, i, h1, h2 => by
    rw [slices_Index_l1]
    by_cases hi : i < r.length
    · have hi' : (i : Int) < (r.length : Int) := by omega
      simp only [hi', decide_true, if_true, ix_get r i hi, Option.bind_some, w64_succ i (by omega)]
      rw [List.drop_eq_getElem_cons hi, List.any_cons]
      by_cases he : x = r[i]
      · exact ⟨i, by simp [he], by simp [he]⟩
      · obtain ⟨k, h3, h4⟩ := contains_l N r x hl n (i + 1) (by omega) (by omega)
        refine ⟨k, by rw [if_neg (by simpa using he)]; exact h3, ?_⟩
        rw [h4]
        have : (r[i] == x) = false := by simpa using fun h => he h.symm
        rw [this]; rfl
    · have hi' : ¬ (i : Int) < (r.length : Int) := by omega
      simp only [hi', decide_false, Bool.false_eq_true, if_false, slices_Index_j1]
      exact ⟨-1, rfl, by rw [List.drop_eq_nil_of_le (by omega)]; rfl⟩
theorem contains_ok {N : Nat} (r : List Int) (x : Int) (hl : r.length ≤ 1000) (hN : 1000 < N) : slices_Contains N r x = some (r.any (· == x)) := by
  obtain ⟨k, h1, h2⟩ := contains_l N r x hl N 0 (by omega) (by omega)
  unfold slices_Contains slices_Index
  simp only [Int.cast_ofNat_Int, List.drop_zero] at h1 h2
  rw [h1]
  simp only [Option.bind_some, h2]
theorem sam_chk_l {N : Nat} (hN : 1000 < N) (l : List Sample) (F : Int) (hl : l.length ≤ 60) : ∀ (n i : Nat), i ≤ l.length → l.length - i < n → grow_Check_l1 N l F n (i : Int) = some ((scanS F (l.drop i) i).1, eo (scanS F (l.drop i) i).2)
  | 0, i, _, _ => by omega
  | n + 1, i, h1, h2 => by
    rw [grow_Check_l1]
    by_cases hi : i < l.length
    · have hi' : (i : Int) < (l.length : Int) := by omega
      simp only [hi', decide_true, if_true, ix_get l i hi, Option.bind_some, w64_succ i (by omega), row_chk hN]
      rw [List.drop_eq_getElem_cons hi, scanS, sam_chk_l hN l F hl n (i + 1) (by omega) (by omega)]
      have ec : ((i + 1 : Nat) : Int) = (i : Int) + 1 := by omega
      rw [ec]
      generalize l[i] = s
      unfold samF
      by_cases hr : rowF s.row = 0
      · simp only [hr, eo, if_true, Option.isSome_none, Bool.false_eq_true, if_false, ne_eq, not_true_eq_false]
        by_cases ht : s.target < -1000 ∨ s.target > 1000
        · rw [if_pos ht, if_pos (by simpa using ht)]; simp
        · rw [if_neg ht, if_neg (by simpa using ht)]
          by_cases hw : (s.row.length : Int) ≠ F
          · rw [if_pos hw, if_pos (by simpa using hw)]; simp
          · rw [if_neg hw, if_neg (by simpa using hw), contains_ok _ _ (by have := rowF_len hr; omega) hN]
            simp only [Option.bind_some]
            cases s.row.any (· == NIL) <;> simp
      · simp [hr, eo]
    · have hi' : ¬ (i : Int) < (l.length : Int) := by omega
      simp only [hi', decide_false, Bool.false_eq_true, if_false, grow_Check_j1]
      rw [List.drop_eq_nil_of_le (by omega), scanS]; rfl
theorem sam_chk {N : Nat} (hN : 1000 < N) (l : List Sample) (F : Int) : grow_Check N l F = some ((samplesF l F).1, eo (samplesF l F).2) := by
  unfold grow_Check samplesF
  by_cases h1 : l.length > 60
  · rw [if_pos h1, if_pos (by simp; omega)]; rfl
  · rw [if_neg h1, if_neg (by simp; omega)]
    by_cases h2 : l.length = 0
    · rw [if_pos h2, if_pos (by simpa using h2)]; rfl
    · rw [if_neg h2, if_neg (by simpa using h2)]
      by_cases h3 : F < 0 ∨ F > 8
      · rw [if_pos h3, if_pos (by simpa using h3)]; rfl
      · rw [if_neg h3, if_neg (by simpa using h3)]
        have := sam_chk_l hN l F (by omega) N 0 (by omega) (by omega)
        simpa using this
theorem scanS_ok {F : Int} : ∀ {l : List Sample} {i : Int}, (scanS F l i).2 = 0 → scanS F l i = (0, 0) ∧ ∀ s ∈ l, samF F s = 0
  | [], i, h => ⟨rfl, by simp⟩
  | s :: l, i, h => by
    rw [scanS] at h ⊢
    split at h
    · rename_i hs
      obtain ⟨h1, h2⟩ := scanS_ok h
      refine ⟨by rw [if_pos hs, h1], fun x hx => ?_⟩
      rcases List.mem_cons.1 hx with rfl | hx
      · exact hs
      · exact h2 x hx
    · contradiction
theorem samF_ok {F : Int} {s : Sample} (h : samF F s = 0) : Fine F s ∧ rowF s.row = 0 ∧ ∀ c ∈ s.row, isCell c = true ∧ c ≠ NIL := by
  unfold samF at h
  split at h
  · contradiction
  · rename_i h1
    split at h
    · simp at h
    · rename_i h2
      split at h
      · simp at h
      · rename_i h3
        split at h
        · simp at h
        · rename_i h4
          have hr : rowF s.row = 0 := by omega
          refine ⟨⟨by omega, by omega, by omega⟩, hr, fun c hc => ?_⟩
          have hn : c ≠ NIL := by
            intro e
            apply h4
            exact List.any_eq_true.2 ⟨c, hc, by simp [e]⟩
          exact ⟨(rowF_cell hr c hc).resolve_right hn, hn⟩
/-- samples that are right -/
structure Sams (l : List Sample) (F : Int) : Prop where
  len0 : 1 ≤ l.length
  len1 : l.length ≤ 60
  f0 : 0 ≤ F
  f8 : F ≤ 8
  fine : ∀ s ∈ l, samF F s = 0
theorem sams_of {l : List Sample} {F : Int} (h : (samplesF l F).2 = 0) : Sams l F := by
  unfold samplesF at h
  split at h
  · simp at h
  split at h
  · simp at h
  split at h
  · simp at h
  · exact ⟨by omega, by omega, by omega, by omega, (scanS_ok h).2⟩
theorem samplesF_ok {l : List Sample} {F : Int} (h : (samplesF l F).2 = 0) : samplesF l F = (0, 0) := by
  unfold samplesF at h ⊢
  split at h
  · simp at h
  split at h
  · simp at h
  split at h
  · simp at h
  · rename_i h1 h2 h3
    rw [if_neg h1, if_neg h2, if_neg h3]
    exact (scanS_ok h).1
theorem Sams.wide {l : List Sample} {F : Int} (h : Sams l F) : Wide l F := fun s hs => (samF_ok (h.fine s hs)).1.1
theorem Sams.tb {l : List Sample} {F : Int} (h : Sams l F) : Tb l := fun s hs => (samF_ok (h.fine s hs)).1.2
end Go.Dl
