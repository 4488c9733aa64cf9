/- The reference's samples, split and growing. -/
import Derived.Test.YtbalmknhjokgaaaDoorPGrowT
import Derived.Test.YtbalmknhjokgaaaDoorPWalkRef
set_option linter.unusedVariables false
namespace Go.Dl

/-! ### samples -/
theorem samref_l2 (N : Nat) (l : List Sample) (F : Int) (i : Nat) (hi : i < l.length) (kn : Int → Option (Int × Int)) (hw : (l[i].row.length : Int) = F) (hl : F ≤ 1000) : ∀ (n k : Nat), k ≤ l[i].row.length → l[i].row.length - k < n →
    orchref2_Samples_l2 N F l i kn n (k : Int) = if (l[i].row.drop k).any (· == NIL) then some ((i : Int), 5) else kn (w64 ((i : Int) + 1))
  | 0, k, _, _ => by omega
  | n + 1, k, h1, h2 => by
    rw [orchref2_Samples_l2]
    by_cases hk : k < l[i].row.length
    · have hk' : (k : Int) < F := by omega
      simp only [hk', decide_true, if_true, ix_get l i hi, Option.bind_some, ix_get l[i].row k hk, w64_succ k (by omega)]
      rw [List.drop_eq_getElem_cons hk, List.any_cons, samref_l2 N l F i hi kn hw hl n (k + 1) (by omega) (by omega)]
      have e : (l[i].row[k] == NIL) = (l[i].row[k] == (-1125899906842624 : Int)) := rfl
      rw [e]
      cases (l[i].row[k] == (-1125899906842624 : Int)) <;> simp
    · have hk' : ¬ (k : Int) < F := by omega
      simp only [hk', decide_false, Bool.false_eq_true, if_false, orchref2_Samples_j2]
      rw [List.drop_eq_nil_of_le (by omega)]; rfl
theorem samref_l1 {N : Nat} (hN : 1000 < N) (l : List Sample) (F : Int) (hl : l.length ≤ 60) : ∀ (n i : Nat), i ≤ l.length → l.length - i < n → orchref2_Samples_l1 N l F n (i : Int) = some (scanS F (l.drop i) i)
  | 0, i, _, _ => by omega
  | n + 1, i, h1, h2 => by
    rw [orchref2_Samples_l1]
    by_cases hi : i < l.length
    · have hi' : (i : Int) < (l.length : Int) := by omega
      have ec : ((i + 1 : Nat) : Int) = (i : Int) + 1 := by omega
      have ih := samref_l1 hN l F hl n (i + 1) (by omega) (by omega)
      simp only [hi', decide_true, if_true, ix_get l i hi, Option.bind_some, row_ref hN]
      rw [List.drop_eq_getElem_cons hi, scanS]
      unfold samF
      by_cases hr : rowF l[i].row = 0
      · simp only [hr, bne_self_eq_false, Bool.false_eq_true, if_false, ne_eq, not_true_eq_false, gd]
        by_cases h3 : l[i].target < -1000
        · simp [h3]
        · simp only [h3, decide_false, Bool.not_false, if_true, Option.bind_some, Bool.false_or, false_or]
          by_cases h4 : l[i].target > 1000
          · simp [h4]
          · simp only [h4, decide_false, Bool.false_eq_true, if_false]
            by_cases hw : (l[i].row.length : Int) = F
            · have := rowF_len hr
              have e2 := samref_l2 N l F i hi (orchref2_Samples_l1 N l F n) hw (by omega) N 0 (by omega) (by omega)
              simp only [List.drop_zero, Int.cast_ofNat_Int, w64_succ i (by omega), ih] at e2
              rw [if_neg (by simpa using hw), e2, ec]
              cases l[i].row.any (· == NIL) <;> simp [hw]
            · rw [if_pos (by simpa using hw), if_pos hw]; simp
      · have hr' : (rowF l[i].row != 0) = true := by simpa using hr
        rw [if_pos hr']
        simp [hr]
    · have hi' : ¬ (i : Int) < (l.length : Int) := by omega
      simp only [hi', decide_false, Bool.false_eq_true, if_false, orchref2_Samples_j1]
      rw [List.drop_eq_nil_of_le (by omega), scanS]
theorem sam_ref {N : Nat} (hN : 1000 < N) (l : List Sample) (F : Int) : orchref2_Samples N l F = some (samplesF l F) := by
  unfold orchref2_Samples samplesF
  by_cases h1 : l.length > 60
  · rw [if_pos h1, if_pos (by simp; omega)]
  · rw [if_neg h1, if_neg (by simp; omega)]
    by_cases h2 : l.length = 0
    · rw [if_pos h2, if_pos (by simpa using h2)]
    · rw [if_neg h2, if_neg (by simpa using h2)]
      by_cases h3 : F < 0 ∨ F > 8
      · rw [if_pos h3, if_pos (by simpa using h3)]
      · rw [if_neg h3, if_neg (by simpa using h3)]
        have := samref_l1 hN l F (by omega) N 0 (by omega) (by omega)
        simpa using this

/-! ### sums, parts -/
def sideB (f c : Int) (b : Bool) (s : Sample) : Bool := lowP f c s == b
theorem sideB_t (l : List Sample) (f c : Int) : l.filter (sideB f c true) = lowS l f c := by
  unfold lowS; congr 1; funext s; simp [sideB]
theorem sideB_f (l : List Sample) (f c : Int) : l.filter (sideB f c false) = highS l f c := by
  unfold highS; congr 1; funext s; simp [sideB]
section
variable {N : Nat} {l : List Sample} {F : Int} (hw : Wide l F) (hl : l.length ≤ 60)
include hw hl
theorem sumref_l (ht : Tb l) {f : Int} (h0 : 0 ≤ f) (h1 : f < F) (c : Int) (b : Bool) : ∀ (n i : Nat) (s m : Int), i ≤ l.length → l.length - i < n → -(1000 * (i : Int)) ≤ s → s ≤ 1000 * (i : Int) → 0 ≤ m → m ≤ i →
    orchref2_sum_l1 N l f c b n s m (i : Int) = some (s + tsum ((l.drop i).filter (sideB f c b)), m + ((l.drop i).filter (sideB f c b)).length)
  | 0, i, s, m, _, _, _, _, _, _ => by omega
  | n + 1, i, s, m, h2, h3, h4, h5, h6, h7 => by
    rw [orchref2_sum_l1]
    by_cases hi : i < l.length
    · have hi' : (i : Int) < (l.length : Int) := by omega
      have hw1 := hw l[i] (List.getElem_mem hi)
      have ht1 := ht l[i] (List.getElem_mem hi)
      simp only [hi', decide_true, if_true, ix_get l i hi, Option.bind_some, w64_succ i (by omega), ix_cell hw1 h0 h1]
      rw [List.drop_eq_getElem_cons hi, List.filter_cons]
      have e : sideB f c b l[i] = (decide (cell l[i] f < c) == b) := rfl
      rw [e]
      by_cases hb : (decide (cell l[i] f < c) == b) = true
      · rw [if_pos hb, if_pos hb, w64_id (n := s + _) (by omega) (by omega), w64_id (n := m + 1) (by omega) (by omega), sumref_l ht h0 h1 c b n (i + 1) _ _ (by omega) (by omega) (by omega) (by omega) (by omega) (by omega)]
        simp only [tsum, List.length_cons]
        congr 2 <;> omega
      · rw [if_neg hb, if_neg hb, sumref_l ht h0 h1 c b n (i + 1) _ _ (by omega) (by omega) (by omega) (by omega) (by omega) (by omega)]
    · have hi' : ¬ (i : Int) < (l.length : Int) := by omega
      simp only [hi', decide_false, Bool.false_eq_true, if_false, orchref2_sum_j1]
      rw [List.drop_eq_nil_of_le (by omega)]; simp [tsum]
theorem sumref (ht : Tb l) (hN : 1000 < N) {f : Int} (h0 : 0 ≤ f) (h1 : f < F) (c : Int) (b : Bool) : orchref2_sum N l f c b = some (tsum (l.filter (sideB f c b)), ((l.filter (sideB f c b)).length : Int)) := by
  have := sumref_l hw hl (N := N) ht h0 h1 c b N 0 0 0 (by omega) (by omega) (by omega) (by omega) (by omega) (by omega)
  simpa [orchref2_sum] using this
theorem partref_l {f : Int} (h0 : 0 ≤ f) (h1 : f < F) (c : Int) (b : Bool) : ∀ (n i : Nat) (o : List Sample), i ≤ l.length → l.length - i < n → o.length ≤ i →
    orchref2_part_l1 N l f c b n o (i : Int) = some (o ++ (l.drop i).filter (sideB f c b))
  | 0, i, o, _, _, _ => by omega
  | n + 1, i, o, h2, h3, h4 => by
    rw [orchref2_part_l1]
    by_cases hi : i < l.length
    · have hi' : (i : Int) < (l.length : Int) := by omega
      have hw1 := hw l[i] (List.getElem_mem hi)
      simp only [hi', decide_true, if_true, ix_get l i hi, Option.bind_some, w64_succ i (by omega), ix_cell hw1 h0 h1]
      rw [List.drop_eq_getElem_cons hi, List.filter_cons]
      have e : sideB f c b l[i] = (decide (cell l[i] f < c) == b) := rfl
      rw [e]
      by_cases hb : (decide (cell l[i] f < c) == b) = true
      · rw [if_pos hb, if_pos hb, app_ok _ _ (by simp [LIM]; omega)]
        simp only [Option.bind_some]
        rw [partref_l h0 h1 c b n (i + 1) _ (by omega) (by omega) (by simp; omega)]
        simp
      · rw [if_neg hb, if_neg hb, partref_l h0 h1 c b n (i + 1) _ (by omega) (by omega) (by omega)]
    · have hi' : ¬ (i : Int) < (l.length : Int) := by omega
      simp only [hi', decide_false, Bool.false_eq_true, if_false, orchref2_part_j1]
      rw [List.drop_eq_nil_of_le (by omega)]; simp
theorem partref (hN : 1000 < N) {f : Int} (h0 : 0 ≤ f) (h1 : f < F) (c : Int) (b : Bool) : orchref2_part N l f c b = some (l.filter (sideB f c b)) := by
  have := partref_l hw hl (N := N) h0 h1 c b N 0 [] (by omega) (by omega) (by simp)
  simpa [orchref2_part] using this
end

/-! ### split -/
def FE (s : BS) : Int := if 0 ≤ s.ft then s.ft else 0
def rstep (l : List Sample) (least f : Int) (s : BS) (c : Int) : BS :=
  if may l least f c then (if fx l f c * s.dn > s.up * fy l f c ∨ (0 ≤ s.ft ∧ fx l f c * s.dn = s.up * fy l f c ∧ f = s.ft ∧ c < s.ct) then ⟨f, c, fx l f c, fy l f c⟩ else s) else s
def rfeat (l : List Sample) (least : Int) (s : BS) (f : Int) : BS := (l.map (cell · f)).foldl (rstep l least f) s
theorem BestI.rstep {l : List Sample} {least f c : Int} {P : Int → Int → Prop} {s : BS} (h : BestI l least P s) (hl0 : 1 ≤ least) (hf : 0 ≤ f) (hlen : 1 ≤ l.length) (hord : ∀ g d, P g d → g ≤ f) :
    BestI l least (fun g d => P g d ∨ g = f ∧ d = c) (rstep l least f s c) := by
  unfold Dl.rstep
  by_cases hm : may l least f c
  · rw [if_pos hm]
    have hp := may_pos hl0 hm
    rcases h with ⟨h1, h2, h3, h4, h5⟩ | ⟨h1, h2, h3, h4, h5, h6, h7⟩
    · by_cases hb : fx l f c * s.dn > s.up * fy l f c
      · rw [if_pos (.inl hb)]
        rw [h3, h4] at hb
        refine .inr ⟨hf, .inr ⟨rfl, rfl⟩, hm, rfl, rfl, hb, fun g d hq hmg => ?_⟩
        rcases hq with hq | ⟨rfl, rfl⟩
        · have := frac_lt (may_pos hl0 hmg) (show (0 : Int) < l.length by omega) hp (h5 g d hq hmg) hb
          exact ⟨by show fx l g d * fy l f c ≤ fx l f c * fy l g d; omega, fun e => by have e : fx l g d * fy l f c = fx l f c * fy l g d := e; omega⟩
        · exact ⟨Int.le_refl _, fun _ => .inr ⟨rfl, Int.le_refl _⟩⟩
      · rw [if_neg (by omega)]
        refine .inl ⟨h1, h2, h3, h4, fun g d hq hmg => ?_⟩
        rcases hq with hq | ⟨rfl, rfl⟩
        · exact h5 g d hq hmg
        · rw [h3, h4] at hb; omega
    · have hsp : 0 < s.dn := by rw [h5]; exact may_pos hl0 h3
      by_cases hb : fx l f c * s.dn > s.up * fy l f c
      · rw [if_pos (.inl hb)]
        refine .inr ⟨hf, .inr ⟨rfl, rfl⟩, hm, rfl, rfl, ?_, fun g d hq hmg => ?_⟩
        · exact frac_lt (show (0 : Int) < l.length by omega) hsp hp (Int.le_of_lt h6) hb
        · rcases hq with hq | ⟨rfl, rfl⟩
          · have := frac_lt (may_pos hl0 hmg) hsp hp (h7 g d hq hmg).1 hb
            exact ⟨by show fx l g d * fy l f c ≤ fx l f c * fy l g d; omega, fun e => by have e : fx l g d * fy l f c = fx l f c * fy l g d := e; omega⟩
          · exact ⟨Int.le_refl _, fun _ => .inr ⟨rfl, Int.le_refl _⟩⟩
      · by_cases ht : 0 ≤ s.ft ∧ fx l f c * s.dn = s.up * fy l f c ∧ f = s.ft ∧ c < s.ct
        · rw [if_pos (.inr ht)]
          obtain ⟨t1, t2, t3, t4⟩ := ht
          have e : s.up * fy l f c ≤ fx l f c * s.dn := by omega
          refine .inr ⟨hf, .inr ⟨rfl, rfl⟩, hm, rfl, rfl, ?_, fun g d hq hmg => ?_⟩
          · have k1 : tsum l * tsum l * s.dn < s.up * l.length := h6
            have a := Int.mul_lt_mul_of_pos_right k1 hp
            have b := Int.mul_le_mul_of_nonneg_right e (show (0 : Int) ≤ l.length by omega)
            have c' : (tsum l * tsum l * fy l f c) * s.dn < (fx l f c * l.length) * s.dn := by grind
            exact Int.lt_of_mul_lt_mul_right c' (Int.le_of_lt hsp)
          · rcases hq with hq | ⟨rfl, rfl⟩
            · have k := h7 g d hq hmg
              have k2 := frac_le (may_pos hl0 hmg) hsp hp k.1 e
              refine ⟨k2, fun he => ?_⟩
              have he : fx l g d * fy l f c = fx l f c * fy l g d := he
              have : fx l g d * s.dn = s.up * fy l g d := by
                have a1 := frac_le (x1 := s.up) (y1 := s.dn) (x2 := fx l f c) (y2 := fy l f c) (x3 := fx l g d) (y3 := fy l g d) hsp hp (may_pos hl0 hmg) (by omega) (by omega)
                have := k.1
                omega
              have := k.2 this
              show f < g ∨ f = g ∧ c ≤ d
              omega
            · exact ⟨Int.le_refl _, fun _ => .inr ⟨rfl, Int.le_refl _⟩⟩
        · rw [if_neg (by omega)]
          refine .inr ⟨h1, .inl h2, h3, h4, h5, h6, fun g d hq hmg => ?_⟩
          rcases hq with hq | ⟨rfl, rfl⟩
          · exact h7 g d hq hmg
          · have := hord _ _ h2
            exact ⟨by omega, fun e => by omega⟩
  · rw [if_neg hm]
    refine h.elim (fun h => .inl ⟨h.1, h.2.1, h.2.2.1, h.2.2.2.1, fun g d hq hmg => ?_⟩) (fun h => .inr ⟨h.1, .inl h.2.1, h.2.2.1, h.2.2.2.1, h.2.2.2.2.1, h.2.2.2.2.2.1, fun g d hq hmg => ?_⟩)
    · rcases hq with hq | ⟨rfl, rfl⟩
      · exact h.2.2.2.2 g d hq hmg
      · exact absurd hmg hm
    · rcases hq with hq | ⟨rfl, rfl⟩
      · exact h.2.2.2.2.2.2 g d hq hmg
      · exact absurd hmg hm
theorem BestI.rcuts {l : List Sample} {least f : Int} (hl0 : 1 ≤ least) (hf : 0 ≤ f) (hlen : 1 ≤ l.length) : ∀ (cs : List Int) {P : Int → Int → Prop} {s : BS}, BestI l least P s → (∀ g d, P g d → g ≤ f) →
    BestI l least (fun g d => P g d ∨ g = f ∧ d ∈ cs) (cs.foldl (Dl.rstep l least f) s)
  | [], P, s, h, _ => h.congr fun g c _ => by simp
  | c :: cs, P, s, h, ho => by
    have h1 := h.rstep hl0 hf hlen (c := c) ho
    have h2 := BestI.rcuts hl0 hf hlen cs h1 (fun g d hq => by
      rcases hq with hq | ⟨rfl, rfl⟩
      · exact ho g d hq
      · exact Int.le_refl _)
    refine h2.congr fun g d _ => ?_
    simp only [List.mem_cons]
    constructor
    · rintro ((h | ⟨h1, h2⟩) | ⟨h1, h2⟩)
      · exact .inl h
      · exact .inr ⟨h1, .inl h2⟩
      · exact .inr ⟨h1, .inr h2⟩
    · rintro (h | ⟨h1, h2 | h2⟩)
      · exact .inl (.inl h)
      · exact .inl (.inr ⟨h1, h2⟩)
      · exact .inr ⟨h1, h2⟩
theorem rbest_is {l : List Sample} {least : Int} (hl0 : 1 ≤ least) (hlen : 1 ≤ l.length) : ∀ (k : Nat) (f : Int) (s : BS), 0 ≤ f → BestI l least (fun g c => 0 ≤ g ∧ g < f ∧ ∃ s ∈ l, cell s g = c) s → BestI l least (fun g c => 0 ≤ g ∧ g < f + k ∧ ∃ s ∈ l, cell s g = c) ((feats f k).foldl (rfeat l least) s)
  | 0, f, s, _, h => h.congr fun g c _ => by simp
  | k + 1, f, s, h0, h => by
    rw [feats, List.foldl_cons]
    have h1 := h.rcuts hl0 h0 hlen (l.map (cell · f)) (fun g d hq => by omega)
    have h2 := rbest_is hl0 hlen k (f + 1) _ (by omega) (h1.congr (Q := fun g c => 0 ≤ g ∧ g < f + 1 ∧ ∃ s ∈ l, cell s g = c) fun g c _ => by
      rw [List.mem_map]
      constructor
      · rintro (⟨a, b, c⟩ | ⟨rfl, c⟩)
        · exact ⟨a, by omega, c⟩
        · exact ⟨h0, by omega, c⟩
      · rintro ⟨a, b, c⟩
        by_cases hg : g = f
        · subst hg; exact .inr ⟨rfl, c⟩
        · exact .inl ⟨a, by omega, c⟩)
    refine h2.congr fun g c _ => ?_
    rw [show f + 1 + (k : Int) = f + ((k + 1 : Nat) : Int) by omega]
def rbestS (l : List Sample) (F least : Int) : BS := (feats 0 F.toNat).foldl (rfeat l least) ⟨-1, 0, tsum l * tsum l, l.length⟩
theorem rbest_same {l : List Sample} {F least : Int} (hl0 : 1 ≤ least) (hlen : 1 ≤ l.length) (hF : 0 ≤ F) : (rbestS l F least).ft = (bestS l F least).ft ∧ (rbestS l F least).ct = (bestS l F least).ct := by
  have h := rbest_is hl0 hlen F.toNat 0 _ (Int.le_refl 0) (BestI.start.congr (fun g c _ => by constructor; exact fun h => h.elim; rintro ⟨a, b, _⟩; omega))
  have h' : BestI l least (Offer l F) (rbestS l F least) := h.congr fun g c hm => by
    unfold Offer
    rw [show (0 : Int) + (F.toNat : Int) = F by omega]
  exact h'.uniq hl0 (bestS_is hl0 hlen hF)
section
variable {N : Nat} {l : List Sample} {F least : Int} (hw : Wide l F) (ht : Tb l) (hl : l.length ≤ 60) (hl0 : 1 ≤ least)
include ht hl hl0
theorem rstep_bb {f c : Int} {s : BS} (h : BB s) : BB (rstep l least f s c) := by
  have hx := bstep_bb ht hl hl0 (f := f) (c := c) (s := ⟨-1, 0, -1, 1⟩)
  unfold rstep
  split
  · rename_i hm
    split
    · obtain ⟨h1, h2, h3, h4, h5⟩ := sides ht hl f c
      have := score_ok h2 h3 h4 h5 (show 0 ≤ ((lowS l f c).length : Int) by omega) (by omega) (show 0 ≤ ((highS l f c).length : Int) by omega) (by omega) (Int.le_refl 0) (by omega) (Int.le_refl 0) (by omega)
      obtain ⟨_, _, _, _, _, _, a1, a2, a3, a4⟩ := this
      exact ⟨may_pos hl0 hm, a4, a1, a2⟩
    · exact h
  · exact h
theorem rfold_bb {f : Int} : ∀ (cs : List Int) {s : BS}, BB s → BB (cs.foldl (rstep l least f) s)
  | [], s, h => h
  | c :: cs, s, h => rfold_bb cs (rstep_bb ht hl hl0 h)
include hw
theorem split_l2 (hN : 1000 < N) {f : Int} (h0 : 0 ≤ f) (h1 : f < F) (kn : Int → Int → Int → Int → Bool → Int → Option (Int × Int × Bool)) : ∀ (n i : Nat) (s : BS), i ≤ l.length → l.length - i < n → BB s →
    orchref2_Split_l2 N l f least kn n s.up s.dn (FE s) s.ct (decide (0 ≤ s.ft)) (i : Int) =
      kn (((l.drop i).map (cell · f)).foldl (rstep l least f) s).up (((l.drop i).map (cell · f)).foldl (rstep l least f) s).dn (FE (((l.drop i).map (cell · f)).foldl (rstep l least f) s)) (((l.drop i).map (cell · f)).foldl (rstep l least f) s).ct (decide (0 ≤ (((l.drop i).map (cell · f)).foldl (rstep l least f) s).ft)) (w64 (f + 1))
  | 0, i, s, _, _, _ => by omega
  | n + 1, i, s, h2, h3, hb => by
    rw [orchref2_Split_l2]
    by_cases hi : i < l.length
    · have hi' : (i : Int) < (l.length : Int) := by omega
      have ih := fun s hb => split_l2 hN h0 h1 kn n (i + 1) s (by omega) (by omega) hb
      have hw1 := hw l[i] (List.getElem_mem hi)
      simp only [hi', decide_true, if_true, ix_get l i hi, Option.bind_some, w64_succ i (by omega), ix_cell hw1 h0 h1]
      rw [sumref hw hl ht hN h0 h1, sumref hw hl ht hN h0 h1, sideB_t, sideB_f, List.drop_eq_getElem_cons hi, List.map_cons, List.foldl_cons]
      simp only [Option.bind_some]
      generalize cell l[i] f = c
      have hbb := rstep_bb ht hl hl0 (f := f) (c := c) hb
      by_cases hm : may l least f c
      · have hle : ¬ ((decide (((lowS l f c).length : Int) < least) || decide (((highS l f c).length : Int) < least)) || (((lowS l f c).length : Int) == 0)) = true := by
          unfold may at hm
          simp only [Bool.or_eq_true, decide_eq_true_eq, beq_iff_eq]; omega
        rw [if_neg hle]
        obtain ⟨g1, g2, g3, g4, g5⟩ := sides ht hl f c
        obtain ⟨k1, k2, k3, k4, k5, k6, k7, k8, k9, k10⟩ := score_ok (dn := s.dn) (nm := s.up) g2 g3 g4 g5 (show 0 ≤ ((lowS l f c).length : Int) by omega) (by omega) (show 0 ≤ ((highS l f c).length : Int) by omega) (by omega) (by have := hb.d0; omega) hb.d1 hb.u0 hb.u1
        rw [k1, k2, k3, k4]
        have ef : tsum (lowS l f c) * tsum (lowS l f c) * ((highS l f c).length : Int) + tsum (highS l f c) * tsum (highS l f c) * ((lowS l f c).length : Int) = fx l f c := rfl
        have eg : ((lowS l f c).length : Int) * ((highS l f c).length : Int) = fy l f c := rfl
        rw [k5, k6, ef, eg]
        by_cases hg : fx l f c * s.dn > s.up * fy l f c ∨ (0 ≤ s.ft ∧ fx l f c * s.dn = s.up * fy l f c ∧ f = s.ft ∧ c < s.ct)
        · have hs : rstep l least f s c = ⟨f, c, fx l f c, fy l f c⟩ := by unfold rstep; rw [if_pos hm, if_pos hg]
          have hfe : (decide (fx l f c * s.dn > s.up * fy l f c) || (((decide (0 ≤ s.ft) && (fx l f c * s.dn == s.up * fy l f c)) && (f == FE s)) && decide (c < s.ct))) = true := by
            rcases hg with hg | ⟨a1, a2, a3, a4⟩
            · simp [hg]
            · have a5 : (f == FE s) = true := by simp [FE, a1, a3]
              simp [a1, a2, a5, a4]
          rw [if_pos hfe]
          rw [hs] at hbb ⊢
          have := ih ⟨f, c, fx l f c, fy l f c⟩ hbb
          have e1 : FE ⟨f, c, fx l f c, fy l f c⟩ = f := by simp [FE, h0]
          have e2 : decide (0 ≤ f) = true := by simpa using h0
          rw [e1] at this
          simp only [e2] at this
          exact this
        · have hs : rstep l least f s c = s := by unfold rstep; rw [if_pos hm, if_neg hg]
          have hfe : ¬ (decide (fx l f c * s.dn > s.up * fy l f c) || (((decide (0 ≤ s.ft) && (fx l f c * s.dn == s.up * fy l f c)) && (f == FE s)) && decide (c < s.ct))) = true := by
            intro h
            apply hg
            simp only [Bool.or_eq_true, decide_eq_true_eq, Bool.and_eq_true, beq_iff_eq] at h
            rcases h with h | ⟨⟨⟨a1, a2⟩, a3⟩, a4⟩
            · exact .inl h
            · simp only [FE, a1, if_true] at a3
              exact .inr ⟨a1, a2, a3, a4⟩
          rw [if_neg hfe, hs]
          exact ih s hb
      · have hle : ((decide (((lowS l f c).length : Int) < least) || decide (((highS l f c).length : Int) < least)) || (((lowS l f c).length : Int) == 0)) = true := by
          unfold may at hm
          simp only [Bool.or_eq_true, decide_eq_true_eq, beq_iff_eq]; omega
        have hs : rstep l least f s c = s := by unfold rstep; rw [if_neg hm]
        rw [if_pos hle, hs]
        exact ih s hb
    · have hi' : ¬ (i : Int) < (l.length : Int) := by omega
      simp only [hi', decide_false, Bool.false_eq_true, if_false, orchref2_Split_j3]
      rw [List.drop_eq_nil_of_le (by omega)]; rfl
theorem split_l1 (hN : 1000 < N) (hF : F ≤ 60) : ∀ (n : Nat) (f : Int) (s : BS), 0 ≤ f → f ≤ F → (F - f).toNat < n → BB s →
    orchref2_Split_l1 N F l least n s.up s.dn (FE s) s.ct (decide (0 ≤ s.ft)) f = some (FE ((feats f (F - f).toNat).foldl (rfeat l least) s), ((feats f (F - f).toNat).foldl (rfeat l least) s).ct, decide (0 ≤ ((feats f (F - f).toNat).foldl (rfeat l least) s).ft))
  | 0, f, s, _, _, _, _ => by omega
  | n + 1, f, s, h0, h1, h2, hb => by
    rw [orchref2_Split_l1]
    by_cases hc : f < F
    · simp only [hc, decide_true, if_true]
      have := split_l2 hw ht hl hl0 hN h0 hc (orchref2_Split_l1 N F l least n) N 0 s (by omega) (by omega) hb
      simp only [List.drop_zero, Int.cast_ofNat_Int] at this
      rw [this, w64_id (by omega) (by omega), show (F - f).toNat = (F - (f + 1)).toNat + 1 by omega, feats, List.foldl_cons]
      exact split_l1 hN hF n (f + 1) _ (by omega) (by omega) (by omega) (rfold_bb ht hl hl0 _ hb)
    · simp only [hc, decide_false, Bool.false_eq_true, if_false, orchref2_Split_j2]
      rw [show (F - f).toNat = 0 by omega]; rfl
omit hw hl0 in
theorem split_l3 : ∀ (n i : Nat) (acc : Int), i ≤ l.length → l.length - i < n → -(1000 * (i : Int)) ≤ acc → acc ≤ 1000 * (i : Int) → orchref2_Split_l3 N l F least n acc (i : Int) = orchref2_Split_j1 N F l least (acc + tsum (l.drop i))
  | 0, i, acc, h1, h2, _, _ => by omega
  | n + 1, i, acc, h1, h2, h3, h4 => by
    rw [orchref2_Split_l3]
    by_cases hi : i < l.length
    · have hi' : (i : Int) < (l.length : Int) := by omega
      have hb := ht l[i] (List.getElem_mem hi)
      simp only [hi', decide_true, if_true, ix_get l i hi, Option.bind_some, w64_succ i (by omega)]
      rw [w64_id (by omega) (by omega), split_l3 n (i + 1) _ (by omega) (by omega) (by omega) (by omega), List.drop_eq_getElem_cons hi]
      simp only [tsum]
      congr 1
      omega
    · have hi' : ¬ (i : Int) < (l.length : Int) := by omega
      simp only [hi', decide_false, Bool.false_eq_true, if_false]
      rw [List.drop_eq_nil_of_le (by omega)]
      simp [tsum]
theorem split_ref (hN : 1000 < N) (hF0 : 0 ≤ F) (hF : F ≤ 60) (hp : 1 ≤ l.length) : orchref2_Split N l F least = some (FE (bestS l F least), (bestS l F least).ct, decide (0 ≤ (bestS l F least).ft)) := by
  unfold orchref2_Split
  have h3 := split_l3 ht hl (N := N) (F := F) (least := least) N 0 0 (by omega) (by omega) (by omega) (by omega)
  simp only [List.drop_zero, Int.cast_ofNat_Int, Int.zero_add] at h3
  rw [h3]
  unfold orchref2_Split_j1
  have b1 := tsum_bd ht
  have s1 := sqb (a := tsum l) (by omega) (by omega)
  rw [w64_id (by omega) (by omega)]
  have := split_l1 hw ht hl hl0 hN hF N 0 ⟨-1, 0, tsum l * tsum l, l.length⟩ (by omega) hF0 (by omega) ⟨by show (0 : Int) < l.length; omega, by show (l.length : Int) ≤ 3600; omega, s1.1, by show tsum l * tsum l ≤ 1000000000000; omega⟩
  have e : (feats 0 (F - 0).toNat).foldl (rfeat l least) ⟨-1, 0, tsum l * tsum l, l.length⟩ = rbestS l F least := by rw [Int.sub_zero]; rfl
  rw [e] at this
  have e1 : FE ⟨-1, 0, tsum l * tsum l, l.length⟩ = 0 := by simp [FE]
  rw [e1] at this
  have e2 : decide ((0 : Int) ≤ -1) = false := by decide
  simp only [e2] at this
  rw [this]
  obtain ⟨r1, r2⟩ := rbest_same (F := F) hl0 hp hF0
  unfold FE
  rw [r1, r2]
end

/-! ### growing -/
theorem rfloor {N : Nat} {a b : Int} (hb : 0 < b) (hb2 : b ≤ 1000000) (h1 : -1000000000 ≤ a) (h2 : a ≤ 1000000000) : orchref1_Floor N a b = some (a / b) := by
  unfold orchref1_Floor
  have u1 : a / b ≤ 1000000000 := Int.ediv_le_of_le_mul hb (by have := Int.mul_le_mul_of_nonneg_left (show (1 : Int) ≤ b by omega) (show (0 : Int) ≤ 1000000000 by omega); omega)
  have u2 : -1000000000 ≤ a / b := Int.le_ediv_of_mul_le hb (by have := Int.mul_le_mul_of_nonneg_left (show (1 : Int) ≤ b by omega) (show (0 : Int) ≤ 1000000000 by omega); omega)
  by_cases ha : a < 0
  · rw [if_pos (by simpa using ha), nz_ok (by omega)]
    simp only [Option.bind_some]
    rw [w64_id (n := b - 1) (by omega) (by omega), w64_id (n := b - 1 - a) (by omega) (by omega), Int.tdiv_eq_ediv_of_nonneg (by omega)]
    have key : a / b = -((b - 1 - a) / b) := by
      have e1 := Int.mul_ediv_add_emod a b
      have e2 := Int.emod_nonneg a (show b ≠ 0 by omega)
      have e3 := Int.emod_lt_of_pos a hb
      have : (b - 1 - a) / b = -(a / b) := by
        rw [Int.ediv_eq_iff_of_pos hb]
        have g1 : -(a / b) * b = -(b * (a / b)) := by grind
        have g2 : (-(a / b) + 1) * b = -(b * (a / b)) + b := by grind
        constructor <;> omega
      omega
    have k1 : (b - 1 - a) / b = -(a / b) := by omega
    rw [k1, w64_id (n := -(a / b)) (by omega) (by omega), w64_id (by omega) (by omega)]
    congr 1; omega
  · rw [if_neg (by simpa using ha), nz_ok (by omega)]
    simp only [Option.bind_some]
    rw [Int.tdiv_eq_ediv_of_nonneg (by omega), w64_id (by omega) (by omega)]
theorem growref_l (N : Nat) (l : List Sample) (t : List Node) (ht : Tb l) (hl : l.length ≤ 60) : ∀ (n i : Nat) (acc : Int), i ≤ l.length → l.length - i < n → -(1000 * (i : Int)) ≤ acc → acc ≤ 1000 * (i : Int) → orchref2_Grow_l1 N l t n acc (i : Int) = orchref2_Grow_j2 N l t (acc + tsum (l.drop i))
  | 0, i, acc, h1, h2, _, _ => by omega
  | n + 1, i, acc, h1, h2, h3, h4 => by
    rw [orchref2_Grow_l1]
    by_cases hi : i < l.length
    · have hi' : (i : Int) < (l.length : Int) := by omega
      have hb := ht l[i] (List.getElem_mem hi)
      simp only [hi', decide_true, if_true, ix_get l i hi, Option.bind_some, w64_succ i (by omega)]
      rw [w64_id (by omega) (by omega), growref_l N l t ht hl n (i + 1) _ (by omega) (by omega) (by omega) (by omega), List.drop_eq_getElem_cons hi]
      simp only [tsum]
      congr 1
      omega
    · have hi' : ¬ (i : Int) < (l.length : Int) := by omega
      simp only [hi', decide_false, Bool.false_eq_true, if_false]
      rw [List.drop_eq_nil_of_le (by omega)]
      simp [tsum]
theorem grow_ref {F least : Int} (hl0 : 1 ≤ least) (hF0 : 0 ≤ F) (hF : F ≤ 60) : ∀ (d N : Nat) (n : List Node) (l : List Sample), 1001 + d < N → d ≤ 1000 → Wide l F → Tb l → 1 ≤ l.length → l.length ≤ 60 → n.length + 2 ^ (d + 1) ≤ 1000000 →
    orchref2_Grow N n l F d least = some (n ++ lay (growT F least d l) n.length)
  | d, 0, n, l, h, _, _, _, _, _, _ => by omega
  | d, N + 1, n, l, hN, hd, hw, ht, hp, hl, hn => by
    rw [orchref2_Grow, split_ref hw ht hl hl0 (by omega) hF0 hF hp]
    simp only [Option.bind_some]
    have h1 : 1 ≤ 2 ^ (d + 1) := Nat.one_le_two_pow
    have leafC : orchref2_Grow_l1 N l n N 0 0 = some (n ++ [⟨-1, 0, 0, 0, false, tsum l / l.length⟩]) := by
      have h3 := growref_l N l n ht hl N 0 0 (by omega) (by omega) (by omega) (by omega)
      simp only [List.drop_zero, Int.cast_ofNat_Int, Int.zero_add] at h3
      rw [h3]
      unfold orchref2_Grow_j2
      have b1 := tsum_bd ht
      rw [rfloor (by omega) (by omega) (by omega) (by omega)]
      simp only [Option.bind_some]
      rw [app_ok _ _ (by simp [LIM]; omega)]
      rfl
    cases d with
    | zero => rw [if_pos (by simp), leafC]; rfl
    | succ d =>
      have ih := grow_ref hl0 hF0 hF d N
      have hpow : 2 ^ (d + 1 + 1) = 2 * 2 ^ (d + 1) := by rw [Nat.pow_succ]; omega
      obtain ⟨m1, m2, m3⟩ := best_may (l := l) (F := F) (least := least) hl0 hp hF0
      rw [growT]
      by_cases hneg : (bestS l F least).ft < 0
      · rw [if_pos hneg, if_pos (by simp; omega), leafC]; rfl
      · have h0 : 0 ≤ (bestS l F least).ft := by omega
        have e0 : FE (bestS l F least) = (bestS l F least).ft := by simp [FE, h0]
        rw [if_neg hneg, if_neg (by simp; omega), e0]
        obtain ⟨m4, m5⟩ := m3 h0
        generalize (bestS l F least).ft = f at *
        generalize (bestS l F least).ct = c at *
        unfold orchref2_Grow_j1
        rw [partref hw hl (by omega) h0 m5, partref hw hl (by omega) h0 m5, sideB_t, sideB_f]
        have hlen := part_len l (lowP f c)
        have e1 : l.filter (lowP f c) = lowS l f c := rfl
        have e2 : l.filter (fun s => !lowP f c s) = highS l f c := rfl
        rw [e1, e2] at hlen
        simp only [Option.bind_some]
        rw [app_ok _ _ (by simp [LIM]; omega)]
        simp only [Option.bind_some]
        have ed : w64 (((d + 1 : Nat) : Int) - 1) = (d : Int) := by rw [w64_id (by omega) (by omega)]; omega
        rw [ed, w64_id (n := (n.length : Int) + 1) (by omega) (by omega)]
        have sa := growT_size F least d (lowS l f c)
        have sb := growT_size F least d (highS l f c)
        have h1' : 1 ≤ 2 ^ (d + 1) := Nat.one_le_two_pow
        rw [ih _ (lowS l f c) (by omega) (by omega) (hw.low f c) (ht.low f c) (by have := m4.1; omega) (by omega) (by simp; omega)]
        simp only [Option.bind_some]
        have hlt : n.length < ((n ++ [Node.mk f c ((n.length : Int) + 1) 0 (decide (((lowS l f c).length : Int) > ((highS l f c).length : Int))) 0]) ++ lay (growT F least d (lowS l f c)) ((n ++ [Node.mk f c ((n.length : Int) + 1) 0 (decide (((lowS l f c).length : Int) > ((highS l f c).length : Int))) 0]).length)).length := by simp
        rw [ix_get _ n.length hlt]
        simp only [Option.bind_some, Int.toNat_natCast]
        have hset : ∀ (x y : Node) (m : List Node), ((n ++ [x]) ++ m).set n.length y = (n ++ [y]) ++ m := by
          intro x y m
          simp
        rw [hset]
        rw [ih _ (highS l f c) (by omega) (by omega) (hw.high f c) (ht.high f c) (by have := m4.2; omega) (by omega) (by simp [lay_len]; omega)]
        simp only [Option.bind_some, lay]
        congr 1
        simp [lay_len]
        constructor
        · omega
        · congr 1; omega
end Go.Dl
