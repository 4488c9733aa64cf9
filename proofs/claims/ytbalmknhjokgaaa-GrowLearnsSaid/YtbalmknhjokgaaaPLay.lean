/- A tree that is laid is right; its ways. -/
import Derived.Test.YtbalmknhjokgaaaPGrowT
set_option linter.unusedVariables false
namespace Go.Dl

def TOk (F : Int) : T → Prop
  | .leaf v => isCell v = true
  | .node f c _ a b => 0 ≤ f ∧ f < F ∧ isCell c = true ∧ TOk F a ∧ TOk F b
def T.depth : T → Int
  | .leaf _ => 0
  | .node _ _ _ a b => 1 + max a.depth b.depth
/-- the tree stands in a list from a place on -/
def At (t : List Node) (i : Nat) (x : T) : Prop := ∃ pre post, t = pre ++ (lay x i ++ post) ∧ pre.length = i
theorem At.whole (x : T) : At (lay x 0) 0 x := ⟨[], [], by simp, rfl⟩
theorem At.len {t : List Node} {i : Nat} {x : T} (h : At t i x) : i + x.size ≤ t.length := by
  obtain ⟨pre, post, rfl, hp⟩ := h
  simp [lay_len]; omega
theorem At.leaf {t : List Node} {i : Nat} {v : Int} (h : At t i (.leaf v)) : nd t i = ⟨-1, 0, 0, 0, false, v⟩ := by
  have hl := h.len
  obtain ⟨pre, post, rfl, hp⟩ := h
  rw [nd_eq (by simp only [T.size] at hl; omega)]
  rw [List.getElem_append_right (by omega)]
  simp [hp, lay]
theorem At.node {t : List Node} {i : Nat} {f c : Int} {less : Bool} {a b : T} (h : At t i (.node f c less a b)) : nd t i = ⟨f, c, (i : Int) + 1, (i : Int) + 1 + a.size, less, 0⟩ ∧ At t (i + 1) a ∧ At t (i + 1 + a.size) b := by
  have hl := h.len
  obtain ⟨pre, post, rfl, hp⟩ := h
  refine ⟨?_, ?_, ?_⟩
  · rw [nd_eq (by simp only [T.size] at hl; omega), List.getElem_append_right (by omega)]
    simp [hp, lay]
  · refine ⟨pre ++ [⟨f, c, (i : Int) + 1, (i : Int) + 1 + a.size, less, 0⟩], lay b ((i : Int) + 1 + a.size) ++ post, ?_, by simp [hp]⟩
    simp [lay]
  · refine ⟨pre ++ [⟨f, c, (i : Int) + 1, (i : Int) + 1 + a.size, less, 0⟩] ++ lay a ((i : Int) + 1), post, ?_, by simp [hp, lay_len]; omega⟩
    simp [lay]
theorem TOk.mono {F F' : Int} (h : F ≤ F') : ∀ {x : T}, TOk F x → TOk F' x
  | .leaf _, h' => h'
  | .node _ _ _ _ _, h' => ⟨h'.1, by have := h'.2.1; omega, h'.2.2.1, TOk.mono h h'.2.2.2.1, TOk.mono h h'.2.2.2.2⟩
theorem At.ok {F : Int} {t : List Node} : ∀ {x : T} {i : Nat}, At t i x → TOk F x → ∀ j : Nat, i ≤ j → j < i + x.size → nodeF F t.length j (nd t j) = 0
  | .leaf v, i, h, ho, j, h1, h2 => by
    simp only [T.size] at h2
    obtain rfl : j = i := by omega
    rw [h.leaf]
    have ho : isCell v = true := ho
    unfold nodeF
    simp [ho]
  | .node f c less a b, i, h, ho, j, h1, h2 => by
    have hl := h.len
    obtain ⟨h3, h4, h5⟩ := h.node
    obtain ⟨o1, o2, o3, o4, o5⟩ := ho
    simp only [T.size] at h2 hl
    have sa := a.size_pos
    have sb := b.size_pos
    by_cases hj : j = i
    · subst hj
      rw [h3]
      unfold nodeF
      simp only
      rw [if_neg (by omega), if_neg, if_neg (by omega)]
      rw [o3]
      simp
      omega
    · by_cases hja : j < i + 1 + a.size
      · exact h4.ok o4 j (by omega) (by omega)
      · exact h5.ok o5 j (by omega) (by omega)
theorem At.dep {F : Int} {t : List Node} : ∀ {x : T} {i : Nat} (k : Nat), At t i x → TOk F x → x.size ≤ k → dep t k i = x.depth
  | .leaf v, i, k, h, _, hk => by
    simp only [T.size] at hk
    obtain ⟨k, rfl⟩ : ∃ q, k = q + 1 := ⟨k - 1, by omega⟩
    rw [Dl.dep, h.leaf]; rfl
  | .node f c less a b, i, k, h, ho, hk => by
    simp only [T.size] at hk
    obtain ⟨k, rfl⟩ : ∃ q, k = q + 1 := ⟨k - 1, by omega⟩
    have sa := a.size_pos
    have sb := b.size_pos
    obtain ⟨h3, h4, h5⟩ := h.node
    obtain ⟨o1, o2, o3, o4, o5⟩ := ho
    rw [Dl.dep, h3]
    simp only
    rw [if_neg (by omega)]
    have e1 := h4.dep k o4 (by omega)
    have e2 := h5.dep k o5 (by omega)
    rw [show ((i : Int) + 1) = ((i + 1 : Nat) : Int) by omega, e1, show (((i + 1 : Nat) : Int) + (a.size : Int)) = ((i + 1 + a.size : Nat) : Int) by omega, e2, T.depth]
theorem depth_nn : ∀ x : T, 0 ≤ x.depth
  | .leaf _ => by simp [T.depth]
  | .node _ _ _ a b => by have := depth_nn a; have := depth_nn b; simp only [T.depth]; omega
theorem links_app (j : Int) : ∀ (l m : List Node), links j (l ++ m) = links j l + links j m
  | [], m => by simp [links]
  | n :: l, m => by simp only [List.cons_append, links, links_app j l m]; omega
theorem links_lay {F : Int} (j : Int) : ∀ (x : T) (i : Nat), TOk F x → links j (lay x i) = if (i : Int) < j ∧ j < i + x.size then 1 else 0
  | .leaf v, i, _ => by
    have e : links j (lay (.leaf v) i) = 0 := by simp [lay, links, links1]
    rw [e, if_neg (by simp only [T.size]; omega)]
  | .node f c less a b, i, ho => by
    obtain ⟨o1, o2, o3, o4, o5⟩ := ho
    have sa := a.size_pos
    have sb := b.size_pos
    simp only [lay, links, links1, T.size]
    rw [if_neg (by omega), links_app]
    have e1 := links_lay j a (i + 1) o4
    have e2 := links_lay j b (i + 1 + a.size) o5
    rw [show (((i + 1 : Nat)) : Int) = (i : Int) + 1 by omega] at e1
    rw [show (((i + 1 + a.size : Nat)) : Int) = (i : Int) + 1 + a.size by omega] at e2
    rw [e1, e2]
    repeat' split
    all_goals omega
theorem lay_right {F : Int} {x : T} (ho : TOk F x) (hs : x.size ≤ 63) (hd : x.depth ≤ 10) (h0 : 0 ≤ F) (h8 : F ≤ 8) : Right (lay x 0) F := by
  have sp := x.size_pos
  refine ⟨by rw [lay_len]; omega, by rw [lay_len]; exact hs, h0, h8, fun i hi => ?_, fun i h1 h2 => ?_, ?_⟩
  · rw [← nd_eq hi]
    exact (At.whole x).ok ho i (by omega) (by rw [lay_len] at hi; omega)
  · rw [lay_len] at h2
    have := links_lay i x 0 ho
    simp only [Int.cast_ofNat_Int] at this
    rw [this, if_pos (by omega)]
  · have := (At.whole x).dep (lay x 0).length ho (by rw [lay_len]; exact Nat.le_refl _)
    simp only [Int.cast_ofNat_Int] at this
    rw [this]; exact hd
theorem lay_dep {F : Int} {x : T} (ho : TOk F x) : dep (lay x 0) (lay x 0).length 0 = x.depth := by
  have := (At.whole x).dep (lay x 0).length ho (by rw [lay_len]; exact Nat.le_refl _)
  simpa using this

/-! ### ways -/
def goL (f c : Int) (less : Bool) (r : List Int) : Prop := (cellR r f = NIL ∧ less = true) ∨ (cellR r f ≠ NIL ∧ cellR r f < c)
instance (f c : Int) (less : Bool) (r : List Int) : Decidable (goL f c less r) := by unfold goL; exact inferInstance
def T.ix (r : List Int) : T → Int → Int
  | .leaf _, i => i
  | .node f c less a b, i => if goL f c less r then a.ix r (i + 1) else b.ix r (i + 1 + a.size)
def T.val (r : List Int) : T → Int
  | .leaf v => v
  | .node f c less a b => if goL f c less r then a.val r else b.val r
theorem T.ix_in (r : List Int) : ∀ (x : T) (i : Int), i ≤ x.ix r i ∧ x.ix r i < i + x.size
  | .leaf _, i => by simp only [T.ix, T.size]; omega
  | .node f c less a b, i => by
    have ha := T.ix_in r a (i + 1)
    have hb := T.ix_in r b (i + 1 + a.size)
    simp only [T.ix, T.size]
    split <;> omega
theorem At.walk {F : Int} {t : List Node} {r : List Int} : ∀ {x : T} {i : Nat} (k : Nat), At t i x → TOk F x → x.size ≤ k → walk t r k i = x.ix r i
  | .leaf v, i, k, h, _, hk => by
    simp only [T.size] at hk
    obtain ⟨k, rfl⟩ : ∃ q, k = q + 1 := ⟨k - 1, by omega⟩
    rw [Dl.walk, h.leaf]; rfl
  | .node f c less a b, i, k, h, ho, hk => by
    simp only [T.size] at hk
    obtain ⟨k, rfl⟩ : ∃ q, k = q + 1 := ⟨k - 1, by omega⟩
    have sa := a.size_pos
    have sb := b.size_pos
    obtain ⟨h3, h4, h5⟩ := h.node
    obtain ⟨o1, o2, o3, o4, o5⟩ := ho
    rw [Dl.walk, h3]
    simp only
    rw [if_neg (by omega), T.ix]
    have e1 := h4.walk (r := r) k o4 (by omega)
    have e2 := h5.walk (r := r) k o5 (by omega)
    have hs : stepN ⟨f, c, (i : Int) + 1, (i : Int) + 1 + a.size, less, 0⟩ (cellR r f) = if goL f c less r then (i : Int) + 1 else (i : Int) + 1 + a.size := rfl
    rw [hs]
    split
    · rw [show ((i : Int) + 1) = ((i + 1 : Nat) : Int) by omega]; exact e1
    · rw [show ((i : Int) + 1 + (a.size : Int)) = ((i + 1 + a.size : Nat) : Int) by omega]; exact e2
theorem At.value {F : Int} {t : List Node} {r : List Int} : ∀ {x : T} {i : Nat}, At t i x → TOk F x → (nd t (x.ix r i)).value = x.val r ∧ (nd t (x.ix r i)).feature = -1
  | .leaf v, i, h, _ => by
    rw [T.ix, h.leaf]; exact ⟨rfl, rfl⟩
  | .node f c less a b, i, h, ho => by
    obtain ⟨h3, h4, h5⟩ := h.node
    obtain ⟨o1, o2, o3, o4, o5⟩ := ho
    rw [T.ix, T.val]
    split
    · rw [show ((i : Int) + 1) = ((i + 1 : Nat) : Int) by omega]; exact h4.value o4
    · rw [show ((i : Int) + 1 + (a.size : Int)) = ((i + 1 + a.size : Nat) : Int) by omega]; exact h5.value o5
theorem lay_leaf {F : Int} {x : T} (ho : TOk F x) (r : List Int) : leafOf (lay x 0) r = x.ix r 0 := by
  have := (At.whole x).walk (r := r) (lay x 0).length ho (by rw [lay_len]; exact Nat.le_refl _)
  simpa [leafOf] using this
theorem lay_value {F : Int} {x : T} (ho : TOk F x) (r : List Int) : valueOf (lay x 0) r = x.val r := by
  have := (At.whole x).value (r := r) ho
  unfold valueOf
  rw [lay_leaf ho]
  simpa using this.1
end Go.Dl
