/- Trees of nodes: what is wrong with one. The program's check and the reference's tell the same. -/
import Derived.Test.YtbalmknhjokgaaaDF
import Derived.Test.YtbalmknhjokgaaaDlP
set_option linter.unusedVariables false
namespace Go.Dl

abbrev NIL : Int := -1125899906842624
def isCell (n : Int) : Bool := decide (n ≥ -1000000) && decide (n ≤ 1000000)
def eo (e : Int) : Option Int := if e = 0 then none else some e

/-- the fault of one node -/
def nodeF (F len i : Int) (n : Node) : Int :=
  if n.feature = -1 then
    if isCell n.value = false then 1
    else if n.cut ≠ 0 ∨ n.left ≠ 0 ∨ n.right ≠ 0 ∨ n.less = true then 3 else 0
  else if n.feature < 0 ∨ F ≤ n.feature ∨ isCell n.cut = false ∨ n.left ≤ i ∨ len ≤ n.left ∨ n.right ≤ i ∨ len ≤ n.right then 1
  else if n.value ≠ 0 ∨ n.left = n.right then 3 else 0
def scanN (F len : Int) : List Node → Int → Option (Int × Int)
  | [], _ => none
  | n :: l, i => if nodeF F len i n = 0 then scanN F len l (i + 1) else some (i, nodeF F len i n)
def links1 (i : Int) (n : Node) : Int := if n.feature = -1 then 0 else (if n.left = i then 1 else 0) + (if n.right = i then 1 else 0)
def links (i : Int) : List Node → Int
  | [] => 0
  | n :: l => links1 i n + links i l
/-- the first of k indices from i on that has not one node above it -/
def clash (t : List Node) : Nat → Int → Option Int
  | 0, _ => none
  | k + 1, i => if links i t = 1 then clash t k (i + 1) else some i
def nd (t : List Node) (i : Int) : Node := t.getD i.toNat ⟨-1, 0, 0, 0, false, 0⟩
def dep (t : List Node) : Nat → Int → Int
  | 0, _ => 0
  | k + 1, i => if (nd t i).feature = -1 then 0 else 1 + max (dep t k (nd t i).left) (dep t k (nd t i).right)
def treeF (t : List Node) (F : Int) : Int × Int :=
  if t.length > 63 then (0, 4) else if t.length = 0 then (0, 5) else if F < 0 ∨ F > 8 then (0, 1) else
  match scanN F t.length t 0 with
  | some p => p
  | none => match clash t (t.length - 1) 1 with
    | some i => (i, 7)
    | none => if dep t t.length 0 > 10 then (0, 4) else (0, 0)

theorem nd_eq {t : List Node} {i : Nat} (h : i < t.length) : nd t (i : Int) = t[i] := by
  unfold nd; simp [h]
theorem ix_nd {t : List Node} {i : Int} (h0 : 0 ≤ i) (h : i < t.length) : ix t i = some (nd t i) := by
  obtain ⟨k, rfl⟩ := Int.eq_ofNat_of_zero_le h0
  have : k < t.length := by omega
  rw [ix_get t k this, nd_eq this]
theorem nodeF_cases (F len i : Int) (n : Node) : nodeF F len i n = 0 ∨ nodeF F len i n = 1 ∨ nodeF F len i n = 3 := by
  unfold nodeF
  repeat' split
  all_goals simp
/-- what is right of a node that asks -/
theorem node_ok {F len i : Int} {n : Node} (h : nodeF F len i n = 0) (hf : n.feature ≠ -1) : 0 ≤ n.feature ∧ n.feature < F ∧ isCell n.cut = true ∧ i < n.left ∧ n.left < len ∧ i < n.right ∧ n.right < len ∧ n.value = 0 ∧ n.left ≠ n.right := by
  unfold nodeF at h
  rw [if_neg hf] at h
  split at h
  · simp at h
  · rename_i h1
    split at h
    · simp at h
    · rename_i h2
      simp only [not_or] at h1 h2
      obtain ⟨a1, a2, a3, a4, a5, a6, a7⟩ := h1
      refine ⟨by omega, by omega, by simpa using a3, by omega, by omega, by omega, by omega, by omega, by omega⟩
theorem leaf_ok {F len i : Int} {n : Node} (h : nodeF F len i n = 0) (hf : n.feature = -1) : isCell n.value = true ∧ n.cut = 0 ∧ n.left = 0 ∧ n.right = 0 ∧ n.less = false := by
  unfold nodeF at h
  rw [if_pos hf] at h
  split at h
  · simp at h
  · rename_i h1
    split at h
    · simp at h
    · rename_i h2
      simp only [not_or] at h2
      exact ⟨by simpa using h1, by omega, by omega, by omega, by simpa using h2.2.2.2⟩
theorem isCell_iff {n : Int} : isCell n = true ↔ -1000000 ≤ n ∧ n ≤ 1000000 := by
  unfold isCell; simp

/-- all nodes are right -/
def OkN (F : Int) (t : List Node) : Prop := ∀ i : Nat, (h : i < t.length) → nodeF F t.length i t[i] = 0
theorem scanN_none {F len : Int} : ∀ {l : List Node} {i : Int}, scanN F len l i = none ↔ ∀ j : Nat, (h : j < l.length) → nodeF F len (i + j) l[j] = 0
  | [], i => by simp [scanN]
  | n :: l, i => by
    rw [scanN]
    constructor
    · intro h j hj
      split at h
      · rename_i hn
        cases j with
        | zero => simpa using hn
        | succ j =>
          have := scanN_none.1 h j (by simpa using hj)
          rw [show i + ((j + 1 : Nat) : Int) = i + 1 + j by omega]
          simpa using this
      · cases h
    · intro h
      rw [if_pos (by have h0 := h 0 (by simp); rw [show i + ((0 : Nat) : Int) = i by omega] at h0; exact h0), scanN_none]
      intro j hj
      have := h (j + 1) (by simpa using hj)
      rw [show i + ((j + 1 : Nat) : Int) = i + 1 + j by omega] at this
      simpa using this
theorem scanN_okN {F : Int} {t : List Node} : scanN F t.length t 0 = none ↔ OkN F t := by
  rw [scanN_none]
  constructor <;> intro h i hi <;> have := h i hi <;> simpa using this

/-! ### depth -/
section
variable {F : Int} {t : List Node} (ho : OkN F t)
include ho
theorem okN_node {i : Int} (h0 : 0 ≤ i) (h1 : i < t.length) (hf : (nd t i).feature ≠ -1) : 0 ≤ (nd t i).feature ∧ (nd t i).feature < F ∧ isCell (nd t i).cut = true ∧ i < (nd t i).left ∧ (nd t i).left < t.length ∧ i < (nd t i).right ∧ (nd t i).right < t.length ∧ (nd t i).value = 0 ∧ (nd t i).left ≠ (nd t i).right := by
  obtain ⟨k, rfl⟩ := Int.eq_ofNat_of_zero_le h0
  have hk : k < t.length := by omega
  have := ho k hk
  rw [← nd_eq hk] at this
  exact node_ok this hf
theorem dep_st : ∀ (k k' : Nat) (i : Int), 0 ≤ i → i < t.length → (t.length : Int) - i ≤ k → (t.length : Int) - i ≤ k' → dep t k i = dep t k' i
  | 0, _, i, _, _, _, _ => by omega
  | _ + 1, 0, i, _, _, _, _ => by omega
  | k + 1, k' + 1, i, h0, h1, h2, h3 => by
    rw [dep, dep]
    split
    · rfl
    · rename_i hf
      obtain ⟨_, _, _, a1, a2, a3, a4, _⟩ := okN_node ho h0 h1 hf
      rw [dep_st k k' _ (by omega) a2 (by omega) (by omega), dep_st k k' _ (by omega) a4 (by omega) (by omega)]
theorem dep_bd : ∀ (k : Nat) (i : Int), 0 ≤ i → i < t.length → 0 ≤ dep t k i ∧ dep t k i ≤ t.length - 1 - i
  | 0, i, _, _ => by simp only [dep]; omega
  | k + 1, i, h0, h1 => by
    rw [dep]
    split
    · omega
    · rename_i hf
      obtain ⟨_, _, _, a1, a2, a3, a4, _⟩ := okN_node ho h0 h1 hf
      have b1 := dep_bd k _ (by omega) a2
      have b2 := dep_bd k _ (by omega) a4
      omega
/-- the depths of the nodes behind i -/
def depL (t : List Node) (i : Int) : List Int := (List.range t.length).map fun (j : Nat) => if (j : Int) > i then dep t t.length j else 0
omit ho in
theorem depL_len (i : Int) : (depL t i).length = t.length := by simp [depL]
omit ho in
theorem depL_get {i : Int} {j : Nat} (h : j < t.length) : (depL t i)[j]? = some (if (j : Int) > i then dep t t.length j else 0) := by simp [depL, h]
omit ho in
theorem ix_depL {i j : Int} (h0 : 0 ≤ j) (h : j < t.length) : ix (depL t i) j = some (if j > i then dep t t.length j else 0) := by
  obtain ⟨k, rfl⟩ := Int.eq_ofNat_of_zero_le h0
  unfold ix
  rw [if_pos h0, show ((k : Int)).toNat = k by simp, depL_get (by omega)]
omit ho in
theorem depL_leaf {i : Int} (h0 : 0 ≤ i) (h : i < t.length) (hd : dep t t.length i = 0) : depL t i = depL t (i - 1) := by
  unfold depL
  refine List.map_congr_left fun j hj => ?_
  by_cases hji : (j : Int) = i
  · rw [if_neg (by omega), if_pos (by omega), hji, hd]
  · by_cases hgt : (j : Int) > i
    · rw [if_pos hgt, if_pos (by omega)]
    · rw [if_neg hgt, if_neg (by omega)]
omit ho in
theorem depL_set {i : Int} (h0 : 0 ≤ i) (h : i < t.length) : (depL t i).set i.toNat (dep t t.length i) = depL t (i - 1) := by
  obtain ⟨k, rfl⟩ := Int.eq_ofNat_of_zero_le h0
  apply List.ext_getElem?
  intro j
  rw [List.getElem?_set]
  by_cases hj : j < t.length
  · rw [depL_get hj, depL_get hj, depL_len]
    split
    · rename_i e
      have e : k = j := by simpa using e
      subst e
      rw [if_pos (by simpa using hj), if_pos (by omega)]
    · rename_i e
      have e : k ≠ j := by simpa using e
      by_cases hgt : (j : Int) > k
      · rw [if_pos hgt, if_pos (by omega)]
      · rw [if_neg hgt, if_neg (by omega)]
  · have e1 : (depL t k)[j]? = none := List.getElem?_eq_none (by rw [depL_len]; omega)
    have e2 : (depL t (k - 1))[j]? = none := List.getElem?_eq_none (by rw [depL_len]; omega)
    rw [e1, e2, depL_len]
    split
    · rename_i e
      have e : k = j := by simpa using e
      omega
    · rfl
theorem depth_l (N : Nat) (hl : t.length ≤ 63) (hl0 : 0 < t.length) : ∀ (n : Nat) (i : Int), -1 ≤ i → i < t.length → i + 1 < n → tree_depth_l1 N t n (depL t i) i = some (dep t t.length 0)
  | 0, i, _, _, _ => by omega
  | n + 1, i, h0, h1, h2 => by
    rw [tree_depth_l1]
    by_cases hi : 0 ≤ i
    · have hi' : i ≥ 0 := hi
      simp only [hi', decide_true, if_true, ix_nd hi h1, Option.bind_some]
      have ed : dep t t.length i = dep t (t.length + 1) i := dep_st ho _ _ i hi h1 (by omega) (by omega)
      rw [dep] at ed
      by_cases hf : (nd t i).feature = -1
      · rw [if_pos hf] at ed
        simp only [hf, bne_self_eq_false, Bool.false_eq_true, if_false]
        rw [depL_leaf hi h1 ed, w64_id (by omega) (by omega)]
        exact depth_l N hl hl0 n (i - 1) (by omega) (by omega) (by omega)
      · rw [if_neg hf] at ed
        obtain ⟨_, _, _, a1, a2, a3, a4, _⟩ := okN_node ho hi h1 hf
        have b1 := dep_bd ho t.length _ (by omega) a2
        have b2 := dep_bd ho t.length _ (by omega) a4
        have hf' : ((nd t i).feature != -1) = true := by simpa using hf
        rw [if_pos hf', ix_depL (by omega) a2, ix_depL (by omega) a4, ix_depL hi h1]
        simp only [Option.bind_some]
        rw [if_pos (by omega), if_pos (by omega), w64_id (n := 1 + max _ _) (by omega) (by omega), ← ed, depL_set hi h1, w64_id (by omega) (by omega)]
        exact depth_l N hl hl0 n (i - 1) (by omega) (by omega) (by omega)
    · have hi' : ¬ (i ≥ 0) := hi
      simp only [hi', decide_false, Bool.false_eq_true, if_false, tree_depth_j1]
      rw [ix_depL (by omega) (by omega), if_pos (by omega)]
      rfl
theorem chkDepth (N : Nat) (hl : t.length ≤ 63) (hl0 : 0 < t.length) (hN : 64 < N) : tree_depth N t = some (dep t t.length 0) := by
  unfold tree_depth mk
  rw [if_pos (by simp [LIM]; omega)]
  simp only [Option.bind_some, Int.toNat_natCast]
  have e : List.replicate t.length (0 : Int) = depL t ((t.length : Int) - 1) := by
    apply List.ext_getElem?
    intro j
    by_cases hj : j < t.length
    · rw [depL_get hj, if_neg (by omega)]; simp [hj]
    · rw [List.getElem?_eq_none (by simp; omega), List.getElem?_eq_none (by rw [depL_len]; omega)]
  rw [e, w64_id (by omega) (by omega)]
  exact depth_l ho N hl hl0 N _ (by omega) (by omega) (by omega)
end

/-! ### nodes -/
theorem cell_cut (N : Nat) (n : Int) : cut_Cell N n = some (isCell n) := rfl
theorem treeNode (N : Nat) (t : List Node) (i : Nat) (F : Int) (h : i < t.length) : tree_node N t i F = some (eo (nodeF F t.length i t[i])) := by
  unfold tree_node
  rw [ix_get t i h]
  simp only [Option.bind_some, cell_cut]
  generalize t[i] = n
  unfold nodeF eo
  by_cases hf : n.feature = -1
  · simp only [hf, beq_self_eq_true, if_true]
    by_cases hc : isCell n.value = true
    · simp only [hc, Bool.not_true, Bool.false_eq_true, if_false, Bool.true_eq_false]
      by_cases h3 : n.cut ≠ 0 ∨ n.left ≠ 0 ∨ n.right ≠ 0 ∨ n.less = true
      · rw [if_pos h3, if_pos (by simpa [or_assoc] using h3)]; simp
      · rw [if_neg h3, if_neg (by simpa [or_assoc] using h3)]; simp
    · have hc' : isCell n.value = false := by simpa using hc
      simp [hc']
  · have hf' : (n.feature == -1) = false := by simpa using hf
    simp only [hf', Bool.false_eq_true, if_false, hf, gd, tree_node_1]
    by_cases h1 : n.feature < 0 ∨ F ≤ n.feature ∨ isCell n.cut = false ∨ n.left ≤ i ∨ (t.length : Int) ≤ n.left ∨ n.right ≤ i ∨ (t.length : Int) ≤ n.right
    · rw [if_pos h1]
      by_cases e1 : (decide (n.feature < 0) || decide (n.feature ≥ F)) = true
      · simp [e1]
      · have e1' : (decide (n.feature < 0) || decide (n.feature ≥ F)) = false := by simpa using e1
        by_cases e2 : isCell n.cut = true
        · by_cases e3 : (decide (n.left > (i : Int)) && decide (n.left < (t.length : Int))) = true
          · by_cases e4 : (decide (n.right > (i : Int)) && decide (n.right < (t.length : Int))) = true
            · exfalso
              simp only [Bool.or_eq_true, decide_eq_true_eq, not_or, Bool.and_eq_true] at e1 e3 e4
              rcases h1 with h | h | h | h | h | h | h
              · omega
              · omega
              · rw [e2] at h; simp at h
              all_goals omega
            · have e4' : (decide (n.right > (i : Int)) && decide (n.right < (t.length : Int))) = false := by simpa using e4
              simp only [e1', e2, e3, e4', Bool.not_true, Bool.not_false, Bool.or_false, Bool.false_or, if_true, Option.bind_some, Bool.or_true]; simp
          · have e3' : (decide (n.left > (i : Int)) && decide (n.left < (t.length : Int))) = false := by simpa using e3
            simp only [e1', e2, e3', Bool.not_true, Bool.not_false, Bool.or_false, Bool.false_or, if_true, Option.bind_some, Bool.or_true]; simp
        · have e2' : isCell n.cut = false := by simpa using e2
          simp only [e1', e2', Bool.not_true, Bool.not_false, Bool.or_false, Bool.false_or, if_true, Option.bind_some, Bool.or_true]; simp
    · rw [if_neg h1]
      simp only [not_or] at h1
      obtain ⟨b1, b2, b3, b4, b5, b6, b7⟩ := h1
      have e1 : (decide (n.feature < 0) || decide (n.feature ≥ F)) = false := by simp; omega
      have e2 : isCell n.cut = true := by simpa using b3
      have e3 : (decide (n.left > (i : Int)) && decide (n.left < (t.length : Int))) = true := by simp; omega
      have e4 : (decide (n.right > (i : Int)) && decide (n.right < (t.length : Int))) = true := by simp; omega
      simp only [e1, e2, e3, e4, Bool.not_true, Bool.not_false, Bool.or_false, Bool.false_or, if_true, Option.bind_some, Bool.or_true, Bool.false_eq_true, if_false]
      by_cases h2 : n.value ≠ 0 ∨ n.left = n.right
      · rw [if_pos h2, if_pos (by simpa using h2)]; simp
      · rw [if_neg h2, if_neg (by simpa using h2)]; simp
theorem links_snoc (i : Int) : ∀ (l : List Node) (n : Node), links i (l ++ [n]) = links i l + links1 i n
  | [], n => by simp [links]
  | m :: l, n => by simp only [List.cons_append, links, links_snoc i l n]; omega
theorem links1_bd (i : Int) (n : Node) : 0 ≤ links1 i n ∧ links1 i n ≤ 2 := by
  unfold links1
  repeat' split
  all_goals omega
theorem links_bd (i : Int) : ∀ l : List Node, 0 ≤ links i l ∧ links i l ≤ 2 * l.length
  | [] => by simp [links]
  | n :: l => by
    have := links1_bd i n
    have := links_bd i l
    simp only [links, List.length_cons]; omega

/-! ### the program's check -/
/-- how many nodes stand above each, of the first i -/
def upL (t : List Node) (i : Nat) : List Int := (List.range t.length).map fun (j : Nat) => links (j : Int) (t.take i)
theorem upL_len {t : List Node} (i : Nat) : (upL t i).length = t.length := by simp [upL]
theorem upL_get {t : List Node} {i j : Nat} (h : j < t.length) : (upL t i)[j]? = some (links (j : Int) (t.take i)) := by simp [upL, h]
theorem ix_upL {t : List Node} {i : Nat} {j : Int} (h0 : 0 ≤ j) (h : j < t.length) : ix (upL t i) j = some (links j (t.take i)) := by
  obtain ⟨k, rfl⟩ := Int.eq_ofNat_of_zero_le h0
  unfold ix
  rw [if_pos h0, show ((k : Int)).toNat = k by simp, upL_get (by omega)]
theorem upL_leaf {t : List Node} {i : Nat} (h : i < t.length) (hf : t[i].feature = -1) : upL t i = upL t (i + 1) := by
  unfold upL
  refine List.map_congr_left fun j hj => ?_
  rw [List.take_succ_eq_append_getElem h, links_snoc, links1, if_pos hf]; omega
theorem upL_set {t : List Node} {i : Nat} (h : i < t.length) (hf : t[i].feature ≠ -1) {a b : Int} (ha0 : 0 ≤ a) (ha : a < t.length) (hb0 : 0 ≤ b) (hb : b < t.length) (hab : a ≠ b) (hl : t[i].left = a) (hr : t[i].right = b) :
    ((upL t i).set a.toNat (links a (t.take i) + 1)).set b.toNat (links b (t.take i) + 1) = upL t (i + 1) := by
  obtain ⟨a, rfl⟩ := Int.eq_ofNat_of_zero_le ha0
  obtain ⟨b, rfl⟩ := Int.eq_ofNat_of_zero_le hb0
  apply List.ext_getElem?
  intro j
  rw [List.getElem?_set, List.getElem?_set]
  by_cases hj : j < t.length
  · rw [upL_get hj, upL_get hj, List.length_set, upL_len, List.take_succ_eq_append_getElem h, links_snoc, links1, if_neg hf, hl, hr]
    simp only [Int.toNat_natCast]
    by_cases e1 : b = j
    · subst e1
      rw [if_pos rfl, if_pos hj, if_neg (by omega), if_pos rfl]; congr 1
    · rw [if_neg e1]
      by_cases e2 : a = j
      · subst e2
        rw [if_pos rfl, if_pos hj, if_pos rfl, if_neg (by omega)]; congr 1
      · rw [if_neg e2, if_neg (by omega), if_neg (by omega)]; simp
  · have e1 : (upL t i)[j]? = none := List.getElem?_eq_none (by rw [upL_len]; omega)
    have e2 : (upL t (i + 1))[j]? = none := List.getElem?_eq_none (by rw [upL_len]; omega)
    rw [e1, e2, List.length_set, upL_len]
    simp only [Int.toNat_natCast]
    rw [if_neg (by omega), if_neg (by omega)]
theorem chk_l1 (N : Nat) (t : List Node) (hl : t.length ≤ 63) : ∀ (n i : Nat), 1 ≤ i → i ≤ t.length → t.length - i < n →
    tree_Check_l1 N (upL t t.length) t n (i : Int) = match clash t (t.length - i) i with | some p => some (p, some 7) | none => tree_Check_j2 N t
  | 0, i, _, _, _ => by omega
  | n + 1, i, h0, h1, h2 => by
    rw [tree_Check_l1, upL_len]
    by_cases hi : i < t.length
    · have hi' : (i : Int) < (t.length : Int) := by omega
      simp only [hi', decide_true, if_true]
      rw [ix_upL (by omega) hi', List.take_length, show t.length - i = (t.length - (i + 1)) + 1 by omega, clash]
      simp only [Option.bind_some]
      have hp : decide ((i : Int) > 0) = true := by simp; omega
      by_cases h : links i t = 1
      · simp only [h, hp, bne_self_eq_false, Bool.and_false, Bool.false_eq_true, if_false, if_true, w64_succ i (by omega)]
        rw [chk_l1 N t hl n (i + 1) (by omega) (by omega) (by omega)]
        have ec : ((i + 1 : Nat) : Int) = (i : Int) + 1 := by omega
        rw [ec]
      · have h' : (links i t != 1) = true := by simpa using h
        rw [if_pos (by rw [hp, h']; rfl), if_neg h]
    · have hi' : ¬ (i : Int) < (t.length : Int) := by omega
      simp only [hi', decide_false, Bool.false_eq_true, if_false]
      rw [show t.length - i = 0 by omega, clash]
theorem chk_l2 (N : Nat) (t : List Node) (F : Int) (hl : t.length ≤ 63) : ∀ (n i : Nat), i ≤ t.length → t.length - i < n →
    tree_Check_l2 N t F n (upL t i) (i : Int) = match scanN F t.length (t.drop i) i with | some p => some (p.1, some p.2) | none => tree_Check_j1 N t (upL t t.length)
  | 0, i, _, _ => by omega
  | n + 1, i, h1, h2 => by
    rw [tree_Check_l2]
    by_cases hi : i < t.length
    · have hi' : (i : Int) < (t.length : Int) := by omega
      have ih := chk_l2 N t F hl n (i + 1) (by omega) (by omega)
      simp only [hi', decide_true, if_true, ix_get t i hi, Option.bind_some, treeNode N t i F hi, w64_succ i (by omega)]
      rw [List.drop_eq_getElem_cons hi, scanN]
      have ec : ((i + 1 : Nat) : Int) = (i : Int) + 1 := by omega
      rw [ec] at ih ⊢
      by_cases hn : nodeF F t.length i t[i] = 0
      · simp only [hn, if_true, eo, Option.isSome_none, Bool.false_eq_true, if_false]
        rw [← ih]
        by_cases hf : t[i].feature = -1
        · simp only [hf, bne_self_eq_false, Bool.false_eq_true, if_false]
          rw [upL_leaf hi hf]
        · obtain ⟨_, _, _, a1, a2, a3, a4, _, a5⟩ := node_ok hn hf
          have hf' : (t[i].feature != -1) = true := by simpa using hf
          have b1 := links_bd t[i].left (t.take i)
          have b2 := links_bd t[i].right (t.take i)
          have hlt : (t.take i).length ≤ 63 := by simp; omega
          rw [if_pos hf', ix_upL (by omega) a2]
          simp only [Option.bind_some]
          rw [w64_id (n := links t[i].left _ + 1) (by omega) (by omega)]
          have e1 : ix ((upL t i).set t[i].left.toNat (links t[i].left (t.take i) + 1)) t[i].right = some (links t[i].right (t.take i)) := by
            unfold ix
            rw [if_pos (by omega), List.getElem?_set_ne (by omega)]
            have := ix_upL (t := t) (i := i) (j := t[i].right) (by omega) a4
            unfold ix at this
            rwa [if_pos (by omega)] at this
          rw [e1]
          simp only [Option.bind_some]
          rw [w64_id (n := links t[i].right _ + 1) (by omega) (by omega), upL_set hi hf (by omega) a2 (by omega) a4 a5 rfl rfl]
      · simp only [hn, if_false, eo, Option.isSome_some, if_true]
    · have hi' : ¬ (i : Int) < (t.length : Int) := by omega
      have hit : i = t.length := by omega
      simp only [hi', decide_false, Bool.false_eq_true, if_false]
      rw [List.drop_eq_nil_of_le (by omega), scanN, hit]
theorem eo0 : eo 0 = none := rfl
theorem chkTree {N : Nat} (hN : 64 < N) (t : List Node) (F : Int) : tree_Check N t F = some ((treeF t F).1, eo (treeF t F).2) := by
  unfold tree_Check treeF
  by_cases h1 : t.length > 63
  · rw [if_pos h1, if_pos (by simp; omega)]; rfl
  · rw [if_neg h1, if_neg (by simp; omega)]
    by_cases h2 : t.length = 0
    · rw [if_pos h2, if_pos (by simpa using h2)]; rfl
    · rw [if_neg h2, if_neg (by simpa using h2)]
      by_cases h3 : F < 0 ∨ F > 8
      · rw [if_pos h3, if_pos (by simpa using h3)]; rfl
      · rw [if_neg h3, if_neg (by simpa using h3)]
        unfold mk
        rw [if_pos (by simp [LIM]; omega)]
        simp only [Option.bind_some, Int.toNat_natCast]
        have e0 : List.replicate t.length (0 : Int) = upL t 0 := by
          apply List.ext_getElem?
          intro j
          by_cases hj : j < t.length
          · rw [upL_get hj]; simp [hj, links]
          · rw [List.getElem?_eq_none (by simp; omega), List.getElem?_eq_none (by rw [upL_len]; omega)]
        have e := chk_l2 N t F (by omega) N 0 (by omega) (by omega)
        simp only [Int.cast_ofNat_Int, List.drop_zero] at e
        rw [e0, e]
        cases hs : scanN F t.length t 0 with
        | some p =>
          have hp : p.2 ≠ 0 := by
            have key : ∀ (l : List Node) (i : Int) (p : Int × Int), scanN F t.length l i = some p → p.2 ≠ 0 := by
              intro l
              induction l with
              | nil => intro i p h; simp [scanN] at h
              | cons n l ih =>
                intro i p h
                rw [scanN] at h
                split at h
                · exact ih _ _ h
                · cases h; assumption
            exact key _ _ _ hs
          simp only [eo, hp, if_false]
        | none =>
          simp only
          unfold tree_Check_j1
          obtain ⟨N', rfl⟩ : ∃ N', N = N' + 1 := ⟨N - 1, by omega⟩
          rw [tree_Check_l1, upL_len]
          have hp : (0 : Int) < (t.length : Int) := by omega
          simp only [hp, decide_true, if_true]
          rw [ix_upL (by omega) hp]
          simp only [Option.bind_some, Int.lt_irrefl, gt_iff_lt, decide_false, Bool.false_and, Bool.false_eq_true, if_false]
          have e1 := chk_l1 (N' + 1) t (by omega) N' 1 (by omega) (by omega) (by omega)
          simp only [Int.cast_ofNat_Int] at e1
          rw [w64_id (n := 0 + 1) (by omega) (by omega), Int.zero_add, e1]
          cases hc : clash t (t.length - 1) 1 with
          | some p => simp [eo]
          | none =>
            simp only
            unfold tree_Check_j2
            rw [chkDepth (scanN_okN.1 hs) (N' + 1) (by omega) (by omega) hN]
            simp only [Option.bind_some]
            by_cases h4 : dep t t.length 0 > 10
            · simp [h4, eo]
            · simp [h4, eo]
end Go.Dl
