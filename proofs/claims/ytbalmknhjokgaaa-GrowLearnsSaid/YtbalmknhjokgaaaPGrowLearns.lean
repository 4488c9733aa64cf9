/- GrowLearns, the plain law. -/
import Derived.Test.YtbalmknhjokgaaaPLearn
import Derived.Test.YtbalmknhjokgaaaDO
set_option linter.unusedVariables false
namespace Go.Dl.GL

/-! ### a question's worth -/
def rightF (l : List Sample) (f c least : Int) : A2I :=
  if least = 0 then ⟨tsum l * tsum l, l.length⟩ else if may l least f c then ⟨fx l f c, fy l f c⟩ else ⟨0, 0⟩
section
variable {N : Nat} {l : List Sample} {F : Int} (hw : Wide l F) (ht : Tb l) (hl : l.length ≤ 60)
include hw ht hl
theorem right_l {f : Int} (h0 : 0 ≤ f) (h1 : f < F) (c least : Int) : ∀ (n i : Nat) (s t m k : Int), i ≤ l.length → l.length - i < n → -(1000 * (i : Int)) ≤ s → s ≤ 1000 * (i : Int) → -(1000 * (i : Int)) ≤ t → t ≤ 1000 * (i : Int) → 0 ≤ m → m ≤ i → 0 ≤ k → k ≤ i →
    orchlaw2_right_l1 N l f c least n s t m k (i : Int) = orchlaw2_right_j1 N least (s + tsum (lowS (l.drop i) f c)) (t + tsum (highS (l.drop i) f c)) (m + (lowS (l.drop i) f c).length) (k + (highS (l.drop i) f c).length)
  | 0, i, s, t, m, k, _, _, _, _, _, _, _, _, _, _ => by omega
  | n + 1, i, s, t, m, k, h2, h3, h4, h5, h6, h7, h8, h9, h10, h11 => by
    rw [orchlaw2_right_l1]
    by_cases hi : i < l.length
    · have hi' : (i : Int) < (l.length : Int) := by omega
      have hw1 := hw l[i] (List.getElem_mem hi)
      have ht1 := ht l[i] (List.getElem_mem hi)
      have hg : decide ((l[i].row.length : Int) > f) = true := by simp; omega
      simp only [hi', decide_true, if_true, ix_get l i hi, Option.bind_some, w64_succ i (by omega), hg, gd, ix_cell hw1 h0 h1, Bool.true_and]
      unfold lowS highS
      rw [List.drop_eq_getElem_cons hi, List.filter_cons, List.filter_cons]
      have ih := fun s t m k => right_l h0 h1 c least n (i + 1) s t m k (by omega) (by omega)
      unfold lowS highS at ih
      by_cases hc : cell l[i] f < c
      · have hp : lowP f c l[i] = true := by simp [lowP, hc]
        rw [hp, if_pos (by simpa using hc), w64_id (n := s + _) (by omega) (by omega), w64_id (n := m + 1) (by omega) (by omega), ih _ _ _ _ (by omega) (by omega) (by omega) (by omega) (by omega) (by omega) (by omega) (by omega)]
        simp only [Bool.not_true, if_true, Bool.false_eq_true, if_false, tsum, List.length_cons]
        congr 1 <;> omega
      · have hp : lowP f c l[i] = false := by simp [lowP, hc]
        rw [hp, if_neg (by simpa using hc), w64_id (n := t + _) (by omega) (by omega), w64_id (n := k + 1) (by omega) (by omega), ih _ _ _ _ (by omega) (by omega) (by omega) (by omega) (by omega) (by omega) (by omega) (by omega)]
        simp only [Bool.not_false, if_true, Bool.false_eq_true, if_false, tsum, List.length_cons]
        congr 1 <;> omega
    · have hi' : ¬ (i : Int) < (l.length : Int) := by omega
      simp only [hi', decide_false, Bool.false_eq_true, if_false]
      rw [List.drop_eq_nil_of_le (by omega)]
      simp [lowS, highS, tsum]
theorem right_ok (hN : 1000 < N) {f : Int} (h0 : 0 ≤ f) (h1 : f < F) (c least : Int) : orchlaw2_right N l f c least = some (rightF l f c least) := by
  unfold orchlaw2_right
  have e := right_l hw ht hl (N := N) h0 h1 c least N 0 0 0 0 0 (by omega) (by omega) (by omega) (by omega) (by omega) (by omega) (by omega) (by omega) (by omega) (by omega)
  simp only [List.drop_zero, Int.cast_ofNat_Int, Int.zero_add] at e
  rw [e]
  unfold orchlaw2_right_j1 rightF
  obtain ⟨g1, g2, g3, g4, g5⟩ := sides ht hl f c
  have hs : tsum (lowS l f c) + tsum (highS l f c) = tsum l := part_sum l (lowP f c)
  have b1 := tsum_bd ht
  have s1 := sqb (a := tsum l) (by omega) (by omega)
  by_cases hz : least = 0
  · rw [if_pos (by simpa using hz), if_pos hz, w64_id (n := tsum _ + tsum _) (by omega) (by omega), hs, w64_id (n := tsum l * tsum l) (by omega) (by omega), w64_id (by omega) (by omega)]
    simp only [Option.bind_some]
    congr 2; omega
  · rw [if_neg (by simpa using hz), if_neg hz]
    obtain ⟨k1, k2, k3, k4, k5, k6, k7, k8, k9, k10⟩ := score_ok (dn := 0) (nm := 0) g2 g3 g4 g5 (show 0 ≤ ((lowS l f c).length : Int) by omega) (by omega) (show 0 ≤ ((highS l f c).length : Int) by omega) (by omega) (by omega) (by omega) (by omega) (by omega)
    by_cases hm : may l least f c
    · rw [if_pos hm, if_neg (by have := hm.1; have := hm.2; simp; omega), k1, k2, k3, k4]; rfl
    · rw [if_neg hm, if_pos (by unfold may at hm; simp; omega)]
end
/-- whatever the cut, there is a sample's that parts them so -/
theorem same_part {l : List Sample} {f c : Int} (h : 1 ≤ (highS l f c).length) : ∃ s ∈ l, ∀ s' ∈ l, lowP f (cell s f) s' = lowP f c s' := by
  have key : ∀ m : List Sample, (∃ s ∈ m, lowP f c s = false) → ∃ s ∈ m, lowP f c s = false ∧ ∀ s' ∈ m, lowP f c s' = false → cell s f ≤ cell s' f := by
    intro m
    induction m with
    | nil => rintro ⟨s, hs, _⟩; simp at hs
    | cons a m ih =>
      rintro ⟨s, hs, hp⟩
      by_cases hm : ∃ s ∈ m, lowP f c s = false
      · obtain ⟨b, hb, hpb, hmin⟩ := ih hm
        by_cases ha : lowP f c a = false ∧ cell a f < cell b f
        · refine ⟨a, by simp, ha.1, fun s' hs' hp' => ?_⟩
          rcases List.mem_cons.1 hs' with rfl | hs'
          · exact Int.le_refl _
          · have := hmin s' hs' hp'; omega
        · refine ⟨b, by simp [hb], hpb, fun s' hs' hp' => ?_⟩
          rcases List.mem_cons.1 hs' with rfl | hs'
          · have : ¬ cell s' f < cell b f := fun h => ha ⟨hp', h⟩
            omega
          · exact hmin s' hs' hp'
      · rcases List.mem_cons.1 hs with rfl | hs
        · refine ⟨s, by simp, hp, fun s' hs' hp' => ?_⟩
          rcases List.mem_cons.1 hs' with rfl | hs'
          · exact Int.le_refl _
          · exact absurd ⟨s', hs', hp'⟩ hm
        · exact absurd ⟨s, hs, hp⟩ hm
  obtain ⟨s0, hs0⟩ := List.exists_mem_of_length_pos h
  obtain ⟨h1, h2⟩ := List.mem_filter.1 hs0
  obtain ⟨s, hs, hp, hmin⟩ := key l ⟨s0, h1, by simpa using h2⟩
  refine ⟨s, hs, fun s' hs' => ?_⟩
  have hc : c ≤ cell s f := by simpa [lowP] using hp
  by_cases h3 : cell s' f < c
  · have e1 : lowP f c s' = true := by simp [lowP, h3]
    have e2 : lowP f (cell s f) s' = true := by simp [lowP]; omega
    rw [e1, e2]
  · have e1 : lowP f c s' = false := by simp [lowP, h3]
    have := hmin s' hs' e1
    have e2 : lowP f (cell s f) s' = false := by simp [lowP]; omega
    rw [e1, e2]
theorem offer_any {l : List Sample} {F f c least : Int} (hl0 : 1 ≤ least) (h0 : 0 ≤ f) (h1 : f < F) (hm : may l least f c) : ∃ c', Offer l F f c' ∧ may l least f c' ∧ fx l f c' = fx l f c ∧ fy l f c' = fy l f c := by
  obtain ⟨s, hs, hp⟩ := same_part (l := l) (f := f) (c := c) (by have := hm.2; omega)
  have e1 : lowS l f (cell s f) = lowS l f c := List.filter_congr hp
  have e2 : highS l f (cell s f) = highS l f c := List.filter_congr fun s' hs' => by rw [hp s' hs']
  refine ⟨cell s f, ⟨h0, h1, s, hs, rfl⟩, ?_, ?_, ?_⟩
  · unfold may; rw [e1, e2]; exact hm
  · unfold fx; rw [e1, e2]
  · unfold fy; rw [e1, e2]

/-! ### the tallies -/
def tal (g : List Sample → Int) (x : T) (l : List Sample) : List Int := (List.range 63).map fun (k : Nat) => g (comes x 0 k l)
theorem tal_get (g : List Sample → Int) (x : T) (l : List Sample) {k : Int} (h0 : 0 ≤ k) (h : k < 63) : ix (tal g x l) k = some (g (comes x 0 k l)) := by
  obtain ⟨j, rfl⟩ := Int.eq_ofNat_of_zero_le h0
  have hj : j < 63 := by omega
  unfold ix tal
  rw [if_pos h0]
  simp [hj]
theorem tal_nil (g : List Sample → Int) (x : T) (h : g [] = 0) : tal g x [] = List.replicate 63 0 := by
  apply List.ext_getElem?
  intro j
  unfold tal
  by_cases hj : j < 63
  · rw [List.getElem?_replicate, if_pos hj]; simp [hj, comes, h]
  · rw [List.getElem?_eq_none (by simp; omega), List.getElem?_eq_none (by rw [List.length_replicate]; omega)]
theorem comes_snoc (x : T) (k : Int) (l : List Sample) (s : Sample) : comes x 0 k (l ++ [s]) = comes x 0 k l ++ if x.ix s.row 0 = k then [s] else [] := by
  unfold comes
  rw [List.filter_append]
  congr 1
  by_cases h : x.ix s.row 0 = k <;> simp [h]
theorem tal_set (g : List Sample → Int) (u : Int) (x : T) (l : List Sample) (s : Sample) (h : x.size ≤ 63) (hg : ∀ m : List Sample, g (m ++ [s]) = g m + u) : (tal g x l).set (x.ix s.row 0).toNat (g (comes x 0 (x.ix s.row 0) l) + u) = tal g x (l ++ [s]) := by
  have hb := T.ix_in s.row x 0
  apply List.ext_getElem?
  intro j
  rw [List.getElem?_set]
  by_cases hj : j < 63
  · have e1 : (tal g x l)[j]? = some (g (comes x 0 j l)) := by simp [tal, hj]
    have e2 : (tal g x (l ++ [s]))[j]? = some (g (comes x 0 j (l ++ [s]))) := by simp [tal, hj]
    have e3 : (tal g x l).length = 63 := by simp [tal]
    rw [e1, e2, e3, comes_snoc]
    by_cases he : x.ix s.row 0 = j
    · rw [if_pos (by omega), if_pos (by omega), if_pos he, hg, he]
    · rw [if_neg (by omega), if_neg he, List.append_nil]
  · have e3 : (tal g x l).length = 63 := by simp [tal]
    have e1 : (tal g x l)[j]? = none := List.getElem?_eq_none (by omega)
    have e2 : (tal g x (l ++ [s]))[j]? = none := List.getElem?_eq_none (by simp [tal]; omega)
    rw [e1, e2, e3, if_neg (by omega)]
def gLen (l : List Sample) : Int := l.length
theorem tsum_snoc : ∀ (l : List Sample) (s : Sample), tsum (l ++ [s]) = tsum l + s.target
  | [], s => by simp [tsum]
  | a :: l, s => by simp only [List.cons_append, tsum, tsum_snoc l s]; omega
theorem Tb.comes {l : List Sample} (h : Tb l) (x : T) (i k : Int) : Tb (Dl.comes x i k l) := h.filter _
theorem comes_len (x : T) (i k : Int) (l : List Sample) : (comes x i k l).length ≤ l.length := List.length_filter_le _ _
theorem rowF_whole {F : Int} {s : Sample} (h : samF F s = 0) : rowF s.row = 0 := (samF_ok h).2.1

section
variable {N : Nat} {l : List Sample} {F d least ft c : Int} {x : T} (hN : 2000 < N) (hs : Sams l F) (ho : TOk F x) (hz : x.size ≤ 63) (hd : x.depth ≤ 10)
include hN hs ho hz hd
theorem tally_l (h : orchlaw2_GrowLearns_j1 N (lay x 0, none) least l d F ft c (tal gLen x l) (tal tsum x l) = some true) : ∀ (n i : Nat), i ≤ l.length → l.length - i < n →
    orchlaw2_GrowLearns_l2 N l (lay x 0, none) least d F ft c n (tal gLen x (l.take i)) (tal tsum x (l.take i)) (i : Int) = some true
  | 0, i, _, _ => by omega
  | n + 1, i, h1, h2 => by
    rw [orchlaw2_GrowLearns_l2]
    by_cases hi : i < l.length
    · have hi' : (i : Int) < (l.length : Int) := by omega
      have hw1 := hs.wide l[i] (List.getElem_mem hi)
      have ht1 := hs.tb l[i] (List.getElem_mem hi)
      have hrw := rowF_whole (hs.fine l[i] (List.getElem_mem hi))
      have hr := lay_right ho hz hd hs.f0 hs.f8
      have hlf : tree_Leaf N (lay x 0) l[i].row = some (x.ix l[i].row 0, none) := by
        unfold tree_Leaf tree_Ready
        rw [row_chk (by omega), hrw]
        simp only [Option.bind_some, eo, if_true, Option.isSome_none, Bool.false_eq_true, if_false]
        rw [hw1, chkTree (by omega), treeF_right hr]
        simp only [Option.bind_some, eo, if_true, Option.isSome_none, Bool.false_eq_true, if_false]
        rw [walk_ok hr (by omega) (by omega), lay_leaf ho]; rfl
      have hb := T.ix_in l[i].row x 0
      have hlen := hs.len1
      simp only [hi', decide_true, if_true, ix_get l i hi, Option.bind_some, w64_succ i (by omega)]
      rw [hlf]
      simp only [Option.bind_some, Option.isSome_none, Bool.false_eq_true, if_false]
      rw [tal_get _ _ _ (by omega) (by omega), tal_get _ _ _ (by omega) (by omega)]
      simp only [Option.bind_some]
      have hlt := comes_len x 0 (x.ix l[i].row 0) (l.take i)
      have htk : (l.take i).length ≤ 60 := by simp; omega
      have hb2 := tsum_bd (Tb.comes (fun s hs' => hs.tb s (List.mem_of_mem_take hs') : Tb (l.take i)) x 0 (x.ix l[i].row 0))
      have eg : gLen (comes x 0 (x.ix l[i].row 0) (l.take i)) = ((comes x 0 (x.ix l[i].row 0) (l.take i)).length : Int) := rfl
      rw [w64_id (n := gLen _ + 1) (by rw [eg]; omega) (by rw [eg]; omega), w64_id (n := tsum _ + l[i].target) (by omega) (by omega)]
      rw [tal_set gLen 1 x _ l[i] hz (fun m => by simp [gLen]), tal_set tsum l[i].target x _ l[i] hz (fun m => tsum_snoc m _), ← List.take_succ_eq_append_getElem hi]
      exact tally_l h n (i + 1) (by omega) (by omega)
    · have hi' : ¬ (i : Int) < (l.length : Int) := by omega
      simp only [hi', decide_false, Bool.false_eq_true, if_false]
      rw [List.take_of_length_le (by omega)]; exact h
theorem leaves_l (hf : TFit F least x l) (h : orchlaw2_GrowLearns_j2 N (lay x 0, none) l d F least ft c = some true) : ∀ (n i : Nat), i ≤ x.size → x.size - i < n →
    orchlaw2_GrowLearns_l1 N (lay x 0, none) (tal gLen x l) least (tal tsum x l) l d F ft c n (i : Int) = some true
  | 0, i, _, _ => by omega
  | n + 1, i, h1, h2 => by
    have _h1 := hN
    have _h2 := ho
    have _h3 := hd
    rw [orchlaw2_GrowLearns_l1]
    simp only [lay_len]
    by_cases hi : i < x.size
    · have hi' : (i : Int) < (x.size : Int) := by omega
      have hil : i < (lay x 0).length := by rw [lay_len]; exact hi
      have ih := leaves_l hf h n (i + 1) (by omega) (by omega)
      simp only [hi', decide_true, if_true, ix_get (lay x 0) i hil, Option.bind_some, w64_succ i (by omega), ih]
      have en : (lay x 0)[i] = nd (lay x 0) (i : Int) := (nd_eq hil).symm
      rw [en]
      by_cases hfe : (nd (lay x 0) (i : Int)).feature = -1
      · obtain ⟨g1, g2, g3, g4⟩ := leaf_comes (At.whole x) hf hs.wholes i (by omega) (by omega) hfe
        simp only [Int.cast_ofNat_Int] at g1 g2 g3 g4
        rw [if_neg (by simp [hfe]), tal_get _ _ _ (by omega) (by omega), tal_get _ _ _ (by omega) (by omega)]
        have hlt := comes_len x 0 i l
        have hl1 := hs.len1
        have hb2 := tsum_bd (Tb.comes hs.tb x 0 i)
        have hmb := mean_bd (Tb.comes hs.tb x 0 i) g1
        have eg : gLen (comes x 0 i l) = ((comes x 0 i l).length : Int) := rfl
        rw [eg, g4]
        generalize hL : comes x 0 i l = L at *
        have e1 := Int.mul_ediv_add_emod (tsum L) L.length
        have e2 := Int.emod_nonneg (tsum L) (show (L.length : Int) ≠ 0 by omega)
        have e3 := Int.emod_lt_of_pos (tsum L) (show (0 : Int) < L.length by omega)
        generalize hv : tsum L / (L.length : Int) = v at *
        have m1 := mul_bd (A := 1000) (B := 60) hmb.1 hmb.2 (show (-60 : Int) ≤ L.length by omega) (show (L.length : Int) ≤ 60 by omega)
        have m2 : (v + 1) * (L.length : Int) = v * L.length + L.length := by grind
        have m3 : (L.length : Int) * v = v * L.length := Int.mul_comm _ _
        have c1 : ((L.length : Int) == 0) = false := beq_eq_false_iff_ne.2 (by omega)
        have c2 : (decide ((x.size : Int) > 1) && decide ((L.length : Int) < least)) = false := by
          by_cases h1x : 1 < x.size
          · have := g3 h1x
            rw [Bool.and_eq_false_iff]; right; simp only [decide_eq_false_iff_not]; omega
          · rw [Bool.and_eq_false_iff]; left; simp only [decide_eq_false_iff_not]; omega
        simp only [Option.bind_some]
        rw [w64_id (n := v * _) (by omega) (by omega), w64_id (n := v + 1) (by omega) (by omega), w64_id (n := (v + 1) * _) (by omega) (by omega)]
        simp only [c1, c2, Bool.or_false, Bool.false_or, Bool.not_false, gd, if_true]
        have c3 : decide (v * (L.length : Int) > tsum L) = false := decide_eq_false (by omega)
        have c4 : decide ((v + 1) * (L.length : Int) ≤ tsum L) = false := decide_eq_false (by omega)
        simp only [c3, c4, Bool.or_false, Bool.not_false, if_true, Option.bind_some, Bool.false_eq_true, if_false]
      · rw [if_pos (by simpa using hfe)]
    · have hi' : ¬ (i : Int) < (x.size : Int) := by omega
      simp only [hi', decide_false, Bool.false_eq_true, if_false]
      exact h
end

theorem main {N : Nat} (hN : 3000 < N) (hfact : grow_Fit N [(Sample.mk [1] 0), (Sample.mk [2] 0), (Sample.mk [3] 9), (Sample.mk [4] 9)] 1 1 1 = some ([⟨0, 3, 1, 2, false, 0⟩, ⟨-1, 0, 0, 0, false, 0⟩, ⟨-1, 0, 0, 0, false, 9⟩], none))
    (l : List Sample) (F d least ft c : Int) : orchlaw2_GrowLearns N l F d least ft c = some true := by
  unfold orchlaw2_GrowLearns
  rw [hfact]
  simp only [Option.bind_some]
  rw [show (gd (!((none : Option Int).isSome || (([⟨0, 3, 1, 2, false, 0⟩, ⟨-1, 0, 0, 0, false, 0⟩, ⟨-1, 0, 0, 0, false, 9⟩] : List Node).length : Int) != 3)) (ix ([⟨0, 3, 1, 2, false, 0⟩, ⟨-1, 0, 0, 0, false, 0⟩, ⟨-1, 0, 0, 0, false, 9⟩] : List Node) 0) (Node.mk 0 0 0 0 false 0)) = some ⟨0, 3, 1, 2, false, 0⟩ from rfl]
  simp only [Option.bind_some]
  rw [show (gd (!(((none : Option Int).isSome || (([⟨0, 3, 1, 2, false, 0⟩, ⟨-1, 0, 0, 0, false, 0⟩, ⟨-1, 0, 0, 0, false, 9⟩] : List Node).length : Int) != 3) || ((3 : Int) != 3))) (ix ([⟨0, 3, 1, 2, false, 0⟩, ⟨-1, 0, 0, 0, false, 0⟩, ⟨-1, 0, 0, 0, false, 9⟩] : List Node) 2) (Node.mk 0 0 0 0 false 0)) = some ⟨-1, 0, 0, 0, false, 9⟩ from rfl]
  simp only [Option.bind_some]
  rw [if_neg (by decide), fit_ok (by omega)]
  by_cases hs0 : (samplesF l F).2 = 0
  · rw [if_neg (by simpa using hs0)]
    by_cases hb : d < 0 ∨ d > 5 ∨ least < 1 ∨ least > 60
    · rw [if_pos hb]; rfl
    · rw [if_neg hb]
      simp only [Option.bind_some, Option.isSome_none, Bool.false_eq_true, if_false, Bool.false_or]
      have hs := sams_of hs0
      have hl0 : 1 ≤ least := by omega
      have hx := growT_ok hl0 hs.f0 d.toNat l hs.len0 hs.tb hs.wholes
      have hfit := growT_fit hl0 hs.f0 d.toNat l hs.len0
      have hdep := growT_depth F least d.toNat l
      have hsz : (growT F least d.toNat l).size ≤ 63 := by
        have h1 := growT_size F least d.toNat l
        have h2 : 2 ^ (d.toNat + 1) ≤ 2 ^ 6 := Nat.pow_le_pow_right (by omega) (by omega)
        omega
      have hR := lay_right hx hsz (by omega) hs.f0 hs.f8
      have hx8 := hx.mono hs.f8
      have hR8 := lay_right hx8 hsz (by omega) (show (0 : Int) ≤ 8 by omega) (by omega)
      have hwr := wr_step (F := F) (least := least) hl0 hs.f0 (d.toNat - 1) l hs.len0 hs.wholes
      have hwrg : ∀ y : T, TOk F y → y.size ≤ 63 → y.depth ≤ 10 → grow_Wrong N (lay y 0) l = some (wrT y l, none) := by
        intro y hy1 hy2 hy3
        have hr : readyF (lay y 0) l = 0 := by
          have hRy := lay_right hy1 hy2 hy3 hs.f0 hs.f8
          have h0 := hs.len0
          match l, h0, hs, hs0 with
          | s :: l, _, hs, hs0 =>
            have hw1 := hs.wide s (by simp)
            rw [readyF, hw1, treeF_right hRy]
            simpa using hs0
        rw [wrong_ok (by omega), if_pos hr, wrong_lay hy1]
      generalize hxx : growT F least d.toNat l = x at *
      rw [chkTree (by omega), treeF_right hR]
      simp only [Option.bind_some, eo, if_true, Option.isSome_none, Bool.false_or]
      have hD : tree_Depth N (lay x 0) = some (x.depth, none) := by
        unfold tree_Depth
        rw [chkTree (by omega), treeF_right hR8]
        simp only [Option.bind_some, eo, if_true, Option.isSome_none, Bool.false_eq_true, if_false]
        rw [chkDepth hR.ok N hR.len1 hR.len0 (by omega), lay_dep hx]; rfl
      rw [hD]
      simp only [Option.bind_some, Option.isSome_none, Bool.false_or]
      rw [if_neg (by simp; omega)]
      -- the last part
      have j3 : orchlaw2_GrowLearns_j3 N l F least ft c = some true := by
        unfold orchlaw2_GrowLearns_j3
        have hchk := sam_chk (N := N) (by omega) l F
        rw [samplesF_ok hs0] at hchk
        have hsp : grow_Split N l F least = if (bestS l F least).ft < 0 then some (0, 0, some 5) else some ((bestS l F least).ft, (bestS l F least).ct, none) := by
          unfold grow_Split
          rw [hchk]
          simp only [Option.bind_some, eo, if_true, Option.isSome_none, Bool.false_eq_true, if_false, least_eq]
          rw [if_neg (by simp; omega), best_eq hs.wide hs.tb hs.len1 hl0 (by omega) hs.f0 (by have := hs.f8; omega) hs.len0]
          simp only [Option.bind_some, decide_eq_true_eq]
        rw [hsp]
        have hbest := bestS_is (F := F) (least := least) hl0 hs.len0 hs.f0
        have bnd : ∀ f c', may l least f c' → 0 ≤ fx l f c' ∧ fx l f c' ≤ 1000000000000 ∧ 0 < fy l f c' ∧ fy l f c' ≤ 3600 := by
          intro f c' hm
          obtain ⟨g1, g2, g3, g4, g5⟩ := sides hs.tb hs.len1 f c'
          have hlen := hs.len1
          obtain ⟨_, _, _, _, _, _, k7, k8, k9, k10⟩ := score_ok (dn := 0) (nm := 0) g2 g3 g4 g5 (show 0 ≤ ((lowS l f c').length : Int) by omega) (by omega) (show 0 ≤ ((highS l f c').length : Int) by omega) (by omega) (by omega) (by omega) (by omega) (by omega)
          exact ⟨k7, k8, may_pos hl0 hm, k10⟩
        have b1 := tsum_bd hs.tb
        have hl1 := hs.len1
        have hl00 := hs.len0
        have s1 := sqb (a := tsum l) (by omega) (by omega)
        have hlz : ¬ least = 0 := by omega
        by_cases hfi : ft < 0 ∨ ft ≥ F
        · split <;> simp [hfi]
        · have hfi' : ¬ ((decide (ft < 0) || decide (ft ≥ F)) = true) := by simp; omega
          have hgot := right_ok hs.wide hs.tb hs.len1 (N := N) (by omega) (show 0 ≤ ft by omega) (show ft < F by omega) c least
          have e1 : rightF l ft c least = if may l least ft c then ⟨fx l ft c, fy l ft c⟩ else ⟨0, 0⟩ := by unfold rightF; rw [if_neg hlz]
          rw [e1] at hgot
          by_cases hneg : (bestS l F least).ft < 0
          · rw [if_pos hneg]
            simp only [Option.bind_some, Option.isSome_some, if_true]
            rw [if_neg hfi', hgot, right_ok hs.wide hs.tb hs.len1 (N := N) (by omega) (show (0 : Int) ≤ 0 by omega) (by omega) (-2000000) 0]
            simp only [Option.bind_some, rightF, if_true]
            by_cases hm : may l least ft c
            · rw [if_pos hm]
              obtain ⟨c', ho', hm', hfx, hfy⟩ := offer_any hl0 (show 0 ≤ ft by omega) (show ft < F by omega) hm
              obtain ⟨n1, n2, n3, n4⟩ := bnd ft c hm
              rcases hbest with ⟨_, _, _, _, h5⟩ | ⟨h1, _⟩
              · have := h5 ft c' ho' hm'
                rw [hfx, hfy] at this
                have q1 := mul_nn n1 n2 (show (0 : Int) ≤ l.length by omega) (show (l.length : Int) ≤ 60 by omega)
                have q2 := mul_nn s1.1 s1.2 (show (0 : Int) ≤ fy l ft c by omega) n4
                dsimp only
                rw [w64_id (n := fx l ft c * _) (by omega) (by omega), w64_id (n := tsum l * tsum l * _) (by omega) (by omega)]
                simp [this]
              · omega
            · rw [if_neg hm]; simp
          · rw [if_neg hneg]
            simp only [Option.bind_some, Option.isSome_none, Bool.false_eq_true, if_false]
            obtain ⟨m1, m2, m3⟩ := best_may (l := l) (F := F) (least := least) hl0 hs.len0 hs.f0
            obtain ⟨m4, m5⟩ := m3 (by omega)
            rw [if_neg hfi', hgot, right_ok hs.wide hs.tb hs.len1 (N := N) (by omega) (show 0 ≤ (bestS l F least).ft by omega) m5 (bestS l F least).ct least]
            have e2 : rightF l (bestS l F least).ft (bestS l F least).ct least = ⟨fx l (bestS l F least).ft (bestS l F least).ct, fy l (bestS l F least).ft (bestS l F least).ct⟩ := by unfold rightF; rw [if_neg hlz, if_pos m4]
            rw [e2]
            simp only [Option.bind_some]
            obtain ⟨p1, p2, p3, p4⟩ := bnd _ _ m4
            rcases hbest with ⟨h1, _⟩ | ⟨h1, h2, h3, h4, h5, h6, h7⟩
            · omega
            · by_cases hm : may l least ft c
              · rw [if_pos hm]
                obtain ⟨c', ho', hm', hfx, hfy⟩ := offer_any hl0 (show 0 ≤ ft by omega) (show ft < F by omega) hm
                obtain ⟨n1, n2, n3, n4⟩ := bnd ft c hm
                have := (h7 ft c' ho' hm').1
                rw [hfx, hfy, h4, h5] at this
                have q1 := mul_nn n1 n2 (show 0 ≤ fy l (bestS l F least).ft (bestS l F least).ct by omega) p4
                have q2 := mul_nn p1 p2 (show (0 : Int) ≤ fy l ft c by omega) n4
                dsimp only
                rw [w64_id (n := fx l ft c * _) (by omega) (by omega), w64_id (n := fx l (bestS l F least).ft _ * _) (by omega) (by omega)]
                simp [this, p3]
              · rw [if_neg hm]
                have z1 : w64 (0 * fy l (bestS l F least).ft (bestS l F least).ct) = 0 := by rw [Int.zero_mul]; exact w64_id (by omega) (by omega)
                have z2 : w64 (fx l (bestS l F least).ft (bestS l F least).ct * 0) = 0 := by rw [Int.mul_zero]; exact w64_id (by omega) (by omega)
                simp only [z1, z2]
                simp [p3]
      have j2 : orchlaw2_GrowLearns_j2 N (lay x 0, none) l d F least ft c = some true := by
        unfold orchlaw2_GrowLearns_j2
        rw [hwrg x hx hsz (by omega)]
        simp only [Option.bind_some, Option.isSome_none, Bool.false_eq_true, if_false]
        by_cases hd0 : d > 0
        · rw [if_pos (by simpa using hd0), w64_id (by omega) (by omega), fit_ok (by omega), if_neg (by simpa using hs0), if_neg (by omega)]
          simp only [Option.bind_some, Option.isSome_none, Bool.false_eq_true, if_false]
          have hy1 := growT_ok hl0 hs.f0 (d - 1).toNat l hs.len0 hs.tb hs.wholes
          have hy3 := growT_depth F least (d - 1).toNat l
          have hy2 : (growT F least (d - 1).toNat l).size ≤ 63 := by
            have h1 := growT_size F least (d - 1).toNat l
            have h2 : 2 ^ ((d - 1).toNat + 1) ≤ 2 ^ 6 := Nat.pow_le_pow_right (by omega) (by omega)
            omega
          rw [hwrg _ hy1 hy2 (by omega)]
          simp only [Option.bind_some, Option.isSome_none, Bool.false_or]
          rw [show d.toNat - 1 + 1 = d.toNat by omega, hxx, show d.toNat - 1 = (d - 1).toNat by omega] at hwr
          have bw : ∀ (y : T), TOk F y → ∀ m : List Sample, Tb m → 0 ≤ wrT y m ∧ wrT y m ≤ 1002001000000 * m.length := by
            intro y hy m
            induction m with
            | nil => intro _; simp [wrT]
            | cons s m ih =>
              intro htm
              have h1 := ih (fun x hx => htm x (by simp [hx]))
              have h2 := htm s (by simp)
              have hv : ∀ (z : T), TOk F z → -1000000 ≤ z.val s.row ∧ z.val s.row ≤ 1000000 := by
                intro z
                induction z with
                | leaf v => intro hz; exact isCell_iff.1 hz
                | node f c less a b iha ihb =>
                  intro hz
                  rw [T.val]
                  split
                  · exact iha hz.2.2.2.1
                  · exact ihb hz.2.2.2.2
              have h3 := hv y hy
              have h4 := sq_bd2 (x := s.target - y.val s.row) (by omega) (by omega)
              rw [wrT, List.length_cons]
              push_cast
              omega
          have b2 := bw _ hy1 l hs.tb
          have hl1 := hs.len1
          rw [w64_id (by omega) (by omega), if_neg (by simpa using hwr)]
          exact j3
        · rw [if_neg (by simpa using hd0)]
          exact j3
      have j1 : orchlaw2_GrowLearns_j1 N (lay x 0, none) least l d F ft c (tal gLen x l) (tal tsum x l) = some true := by
        unfold orchlaw2_GrowLearns_j1
        have := leaves_l (N := N) (d := d) (ft := ft) (c := c) (by omega) hs hx hsz (by omega) hfit j2 N 0 (by omega) (by omega)
        simpa using this
      have := tally_l (N := N) (by omega) hs hx hsz (by omega) j1 N 0 (by omega) (by have := hs.len1; omega)
      simp only [List.take_zero, Int.cast_ofNat_Int] at this
      rw [tal_nil gLen x rfl, tal_nil tsum x rfl] at this
      exact this
  · rw [if_pos hs0]; rfl
theorem law_true (l : List Sample) (F d least ft c : Int) : ∃ N, orchlaw2_GrowLearns N l F d least ft c = some true := ⟨3001, main (by omega) (by kernel_rfl) l F d least ft c⟩
end Go.Dl.GL
namespace Go.Dl
theorem law_GrowLearns (l : List Sample) (a b c d e : Int) (h0 : okLSample l) (h1 : okI a) (h2 : okI b) (h3 : okI c) (h4 : okI d) (h5 : okI e) : ∃ N, orchlaw2_GrowLearns N l a b c d e = some true := GL.law_true l a b c d e
end Go.Dl
