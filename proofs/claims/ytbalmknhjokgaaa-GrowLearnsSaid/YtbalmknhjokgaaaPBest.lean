/- The best question: what the program's search finds. -/
import Derived.Test.YtbalmknhjokgaaaPCheck
set_option linter.unusedVariables false
namespace Go.Dl

def lowS (l : List Sample) (f c : Int) : List Sample := l.filter (lowP f c)
def highS (l : List Sample) (f c : Int) : List Sample := l.filter (fun s => !lowP f c s)
def fx (l : List Sample) (f c : Int) : Int := tsum (lowS l f c) * tsum (lowS l f c) * (highS l f c).length + tsum (highS l f c) * tsum (highS l f c) * (lowS l f c).length
def fy (l : List Sample) (f c : Int) : Int := (lowS l f c).length * (highS l f c).length
def may (l : List Sample) (least f c : Int) : Prop := least ≤ (lowS l f c).length ∧ least ≤ (highS l f c).length
instance (l : List Sample) (least f c : Int) : Decidable (may l least f c) := by unfold may; exact inferInstance
structure BS where
  ft : Int
  ct : Int
  up : Int
  dn : Int
def bstep (l : List Sample) (least f : Int) (s : BS) (c : Int) : BS := if may l least f c then (if fx l f c * s.dn > s.up * fy l f c then ⟨f, c, fx l f c, fy l f c⟩ else s) else s
def feats (f : Int) : Nat → List Int
  | 0 => []
  | k + 1 => f :: feats (f + 1) k
def bfeat (l : List Sample) (least : Int) (s : BS) (f : Int) : BS := (cuts l f).foldl (bstep l least f) s
def bestS (l : List Sample) (F least : Int) : BS := (feats 0 F.toNat).foldl (bfeat l least) ⟨-1, 0, tsum l * tsum l, l.length⟩

theorem sqb {a : Int} (h1 : -60000 ≤ a) (h2 : a ≤ 60000) : 0 ≤ a * a ∧ a * a ≤ 3600000000 := by
  refine ⟨?_, (mul_bd (A := 60000) (B := 60000) h1 h2 h1 h2).2⟩
  rcases Int.le_total 0 a with h | h
  · exact Int.mul_nonneg h h
  · have := Int.mul_nonneg (show 0 ≤ -a by omega) (show 0 ≤ -a by omega); grind
structure BB (s : BS) : Prop where
  d0 : 0 < s.dn
  d1 : s.dn ≤ 3600
  u0 : 0 ≤ s.up
  u1 : s.up ≤ 1000000000000
theorem score_ok {a b p q dn nm : Int} (ha : -60000 ≤ a) (ha2 : a ≤ 60000) (hb : -60000 ≤ b) (hb2 : b ≤ 60000) (hp : 0 ≤ p) (hp2 : p ≤ 60) (hq : 0 ≤ q) (hq2 : q ≤ 60) (hd : 0 ≤ dn) (hd2 : dn ≤ 3600) (hn : 0 ≤ nm) (hn2 : nm ≤ 1000000000000) :
    w64 (w64 (a * a) * q) = a * a * q ∧ w64 (w64 (b * b) * p) = b * b * p ∧ w64 (p * q) = p * q ∧ w64 (a * a * q + b * b * p) = a * a * q + b * b * p ∧
    w64 ((a * a * q + b * b * p) * dn) = (a * a * q + b * b * p) * dn ∧ w64 (nm * (p * q)) = nm * (p * q) ∧ 0 ≤ a * a * q + b * b * p ∧ a * a * q + b * b * p ≤ 1000000000000 ∧ 0 ≤ p * q ∧ p * q ≤ 3600 := by
  have h1 := sqb ha ha2
  have h2 := sqb hb hb2
  have h3 := mul_nn h1.1 h1.2 hq hq2
  have h4 := mul_nn h2.1 h2.2 hp hp2
  have h5 := mul_nn hp hp2 hq hq2
  have h6 := mul_nn (show 0 ≤ a * a * q + b * b * p by omega) (show a * a * q + b * b * p ≤ 1000000000000 by omega) hd hd2
  have h7 := mul_nn hn hn2 h5.1 (show p * q ≤ 3600 by omega)
  rw [w64_id (n := a * a) (by omega) (by omega), w64_id (n := b * b) (by omega) (by omega)]
  refine ⟨w64_id (by omega) (by omega), w64_id (by omega) (by omega), w64_id (by omega) (by omega), w64_id (by omega) (by omega), w64_id (by omega) (by omega), w64_id (by omega) (by omega), by omega, by omega, by omega, by omega⟩

section
variable {N : Nat} {l : List Sample} {F least : Int} (hw : Wide l F) (ht : Tb l) (hl : l.length ≤ 60) (hl0 : 1 ≤ least)
include ht hl
theorem sides (f c : Int) : (lowS l f c).length + (highS l f c).length = l.length ∧ -60000 ≤ tsum (lowS l f c) ∧ tsum (lowS l f c) ≤ 60000 ∧ -60000 ≤ tsum (highS l f c) ∧ tsum (highS l f c) ≤ 60000 := by
  have h1 := part_len l (lowP f c)
  have h2 := tsum_bd (ht.filter (lowP f c))
  have h3 := tsum_bd (ht.filter (fun s => !lowP f c s))
  unfold lowS highS
  refine ⟨h1, ?_, ?_, ?_, ?_⟩ <;> omega
include hl0
theorem bstep_bb {f c : Int} {s : BS} (h : BB s) : BB (bstep l least f s c) := by
  unfold bstep
  split
  · split
    · rename_i hm _
      obtain ⟨h1, h2, h3, h4, h5⟩ := sides ht hl f c
      have := score_ok h2 h3 h4 h5 (show 0 ≤ ((lowS l f c).length : Int) by omega) (by omega) (show 0 ≤ ((highS l f c).length : Int) by omega) (by omega) (Int.le_refl 0) (by omega) (Int.le_refl 0) (by omega)
      obtain ⟨_, _, _, _, _, _, a1, a2, a3, a4⟩ := this
      refine ⟨?_, a4, a1, a2⟩
      exact Int.mul_pos (by have := hm.1; omega) (by have := hm.2; omega)
    · exact h
  · exact h
include hw
theorem best_l2 (hN : 1000 < N) {f : Int} (h0 : 0 ≤ f) (h1 : f < F) (kn : Int → Int → Int → Int → Int → Option (Int × Int)) (cs : List Int) (hcs : cs.length ≤ 60) : ∀ (n i : Nat) (s : BS), i ≤ cs.length → cs.length - i < n → BB s →
    grow_best_l2 N cs l f least kn n s.ft s.ct s.up s.dn (i : Int) = kn ((cs.drop i).foldl (bstep l least f) s).ft ((cs.drop i).foldl (bstep l least f) s).ct ((cs.drop i).foldl (bstep l least f) s).up ((cs.drop i).foldl (bstep l least f) s).dn (w64 (f + 1))
  | 0, i, s, _, _, _ => by omega
  | n + 1, i, s, h2, h3, hb => by
    rw [grow_best_l2]
    by_cases hc : i < cs.length
    · have hc' : (i : Int) < (cs.length : Int) := by omega
      have ih := fun s hb => best_l2 hN h0 h1 kn cs hcs n (i + 1) s (by omega) (by omega) hb
      simp only [hc', decide_true, if_true, ix_get cs i hc, Option.bind_some, w64_succ i (by omega)]
      rw [part_ok hw h0 h1 (by omega) hN, List.drop_eq_getElem_cons hc, List.foldl_cons]
      simp only [Option.bind_some]
      have hbb := bstep_bb ht hl hl0 (f := f) (c := cs[i]) hb
      have e1 : l.filter (lowP f cs[i]) = lowS l f cs[i] := rfl
      have e2 : l.filter (fun s => !lowP f cs[i] s) = highS l f cs[i] := rfl
      rw [e1, e2]
      by_cases hle : ((decide (((lowS l f cs[i]).length : Int) < least)) || (decide (((highS l f cs[i]).length : Int) < least))) = true
      · have hm : ¬ may l least f cs[i] := by
          simp only [Bool.or_eq_true, decide_eq_true_eq] at hle
          unfold may; omega
        rw [if_pos hle, ih s hb]
        simp only [bstep, hm, if_false]
      · have hm : may l least f cs[i] := by
          simp only [Bool.or_eq_true, decide_eq_true_eq, not_or] at hle
          unfold may; omega
        have hta : Tb (lowS l f cs[i]) := ht.filter _
        have htb : Tb (highS l f cs[i]) := ht.filter _
        have hsd := (sides ht hl f cs[i]).1
        rw [if_neg hle, sum_ok hta (by omega) hN, sum_ok htb (by omega) hN]
        simp only [Option.bind_some]
        obtain ⟨g1, g2, g3, g4, g5⟩ := sides ht hl f cs[i]
        obtain ⟨k1, k2, k3, k4, k5, k6, k7, k8, k9, k10⟩ := score_ok (dn := s.dn) (nm := s.up) g2 g3 g4 g5 (show 0 ≤ ((lowS l f cs[i]).length : Int) by omega) (by omega) (show 0 ≤ ((highS l f cs[i]).length : Int) by omega) (by omega) (by have := hb.d0; omega) hb.d1 hb.u0 hb.u1
        rw [k1, k2, k3, k4, k5, k6]
        have ef : tsum (lowS l f cs[i]) * tsum (lowS l f cs[i]) * ((highS l f cs[i]).length : Int) + tsum (highS l f cs[i]) * tsum (highS l f cs[i]) * ((lowS l f cs[i]).length : Int) = fx l f cs[i] := rfl
        have eg : ((lowS l f cs[i]).length : Int) * ((highS l f cs[i]).length : Int) = fy l f cs[i] := rfl
        rw [ef, eg]
        simp only [bstep, hm, if_true] at hbb ⊢
        by_cases hg : fx l f cs[i] * s.dn > s.up * fy l f cs[i]
        · rw [if_pos (by simpa using hg)]
          rw [if_pos hg] at hbb ⊢
          exact ih ⟨f, cs[i], fx l f cs[i], fy l f cs[i]⟩ hbb
        · rw [if_neg (by simpa using hg)]
          rw [if_neg hg]
          exact ih s hb
    · have hc' : ¬ (i : Int) < (cs.length : Int) := by omega
      simp only [hc', decide_false, Bool.false_eq_true, if_false, grow_best_j2]
      rw [List.drop_eq_nil_of_le (by omega)]; rfl
omit hw in
theorem foldl_bb {f : Int} : ∀ (cs : List Int) {s : BS}, BB s → BB (cs.foldl (bstep l least f) s)
  | [], s, h => h
  | c :: cs, s, h => foldl_bb cs (bstep_bb ht hl hl0 h)
theorem best_l1 (hN : 1000 < N) (hF : F ≤ 60) : ∀ (n : Nat) (f : Int) (s : BS), 0 ≤ f → f ≤ F → (F - f).toNat < n → BB s →
    grow_best_l1 N F l least n s.ft s.ct s.up s.dn f = some (((feats f (F - f).toNat).foldl (bfeat l least) s).ft, ((feats f (F - f).toNat).foldl (bfeat l least) s).ct)
  | 0, f, s, _, _, _, _ => by omega
  | n + 1, f, s, h0, h1, h2, hb => by
    rw [grow_best_l1]
    by_cases hc : f < F
    · simp only [hc, decide_true, if_true]
      have c1 := cells_l N l f F least (grow_best_l1 N F l least n) s.ft s.ct s.up s.dn hw h0 hc (by omega) N 0 [] (by omega) (by omega) (by simp)
      simp only [List.drop_zero, List.nil_append, Int.cast_ofNat_Int] at c1
      rw [c1, best_j3 _ _ _ _ _ _ _ _ _ (by omega)]
      have hcl := cuts_len l f
      have := best_l2 hw ht hl hl0 hN h0 hc (grow_best_l1 N F l least n) (cuts l f) (by omega) N 0 s (by omega) (by omega) hb
      simp only [List.drop_zero, Int.cast_ofNat_Int] at this
      rw [this, w64_id (by omega) (by omega), show (F - f).toNat = (F - (f + 1)).toNat + 1 by omega, feats, List.foldl_cons]
      exact best_l1 hN hF n (f + 1) _ (by omega) (by omega) (by omega) (foldl_bb ht hl hl0 _ hb)
    · simp only [hc, decide_false, Bool.false_eq_true, if_false, grow_best_j1]
      rw [show (F - f).toNat = 0 by omega]; rfl
theorem best_eq (hN : 1000 < N) (hF0 : 0 ≤ F) (hF : F ≤ 60) (hp : 1 ≤ l.length) : grow_best N l F least = some ((bestS l F least).ft, (bestS l F least).ct) := by
  unfold grow_best bestS
  rw [sum_ok ht (by omega) hN]
  simp only [Option.bind_some]
  have b1 := tsum_bd ht
  have s1 := sqb (a := tsum l) (by omega) (by omega)
  rw [w64_id (by omega) (by omega)]
  have := best_l1 hw ht hl hl0 hN hF N 0 ⟨-1, 0, tsum l * tsum l, l.length⟩ (by omega) hF0 (by omega) ⟨by show (0 : Int) < l.length; omega, by show (l.length : Int) ≤ 3600; omega, s1.1, by show tsum l * tsum l ≤ 1000000000000; omega⟩
  simpa using this
end

/-! ### what it is -/
theorem frac_lt {x1 y1 x2 y2 x3 y3 : Int} (h1 : 0 < y1) (h2 : 0 < y2) (h3 : 0 < y3) (h : x1 * y2 ≤ x2 * y1) (k : x2 * y3 < x3 * y2) : x1 * y3 < x3 * y1 := by
  have a := Int.mul_le_mul_of_nonneg_right h (Int.le_of_lt h3)
  have b := Int.mul_lt_mul_of_pos_right k h1
  have c : (x1 * y3) * y2 < (x3 * y1) * y2 := by grind
  exact Int.lt_of_mul_lt_mul_right c (Int.le_of_lt h2)
theorem frac_le {x1 y1 x2 y2 x3 y3 : Int} (h1 : 0 < y1) (h2 : 0 < y2) (h3 : 0 < y3) (h : x1 * y2 ≤ x2 * y1) (k : x2 * y3 ≤ x3 * y2) : x1 * y3 ≤ x3 * y1 := by
  have a := Int.mul_le_mul_of_nonneg_right h (Int.le_of_lt h3)
  have b := Int.mul_le_mul_of_nonneg_right k (Int.le_of_lt h1)
  have c : (x1 * y3) * y2 ≤ (x3 * y1) * y2 := by grind
  exact Int.le_of_mul_le_mul_right c h2
theorem may_pos {l : List Sample} {least f c : Int} (hl0 : 1 ≤ least) (h : may l least f c) : 0 < fy l f c := Int.mul_pos (by have := h.1; omega) (by have := h.2; omega)

/-- of the questions P that may be asked s is the best, and of the best ones the first; or there is none that puts anything right. -/
def BestI (l : List Sample) (least : Int) (P : Int → Int → Prop) (s : BS) : Prop :=
  (s.ft = -1 ∧ s.ct = 0 ∧ s.up = tsum l * tsum l ∧ s.dn = l.length ∧ ∀ g c, P g c → may l least g c → fx l g c * l.length ≤ tsum l * tsum l * fy l g c) ∨
  (0 ≤ s.ft ∧ P s.ft s.ct ∧ may l least s.ft s.ct ∧ s.up = fx l s.ft s.ct ∧ s.dn = fy l s.ft s.ct ∧ tsum l * tsum l * s.dn < s.up * l.length ∧
    ∀ g c, P g c → may l least g c → fx l g c * s.dn ≤ s.up * fy l g c ∧ (fx l g c * s.dn = s.up * fy l g c → s.ft < g ∨ s.ft = g ∧ s.ct ≤ c))
theorem BestI.congr {l : List Sample} {least : Int} {P Q : Int → Int → Prop} {s : BS} (h : BestI l least P s) (hPQ : ∀ g c, may l least g c → (P g c ↔ Q g c)) : BestI l least Q s := by
  rcases h with ⟨h1, h2, h3, h4, h5⟩ | ⟨h1, h2, h3, h4, h5, h6, h7⟩
  · exact .inl ⟨h1, h2, h3, h4, fun g c hq hm => h5 g c ((hPQ g c hm).2 hq) hm⟩
  · exact .inr ⟨h1, (hPQ _ _ h3).1 h2, h3, h4, h5, h6, fun g c hq hm => h7 g c ((hPQ g c hm).2 hq) hm⟩
theorem BestI.start {l : List Sample} {least : Int} : BestI l least (fun _ _ => False) ⟨-1, 0, tsum l * tsum l, l.length⟩ := .inl ⟨rfl, rfl, rfl, rfl, fun _ _ h => h.elim⟩
/-- one question more -/
theorem BestI.step {l : List Sample} {least f c : Int} {P : Int → Int → Prop} {s : BS} (h : BestI l least P s) (hl0 : 1 ≤ least) (hf : 0 ≤ f) (hlen : 1 ≤ l.length) (hord : ∀ g d, P g d → g < f ∨ g = f ∧ d < c) :
    BestI l least (fun g d => P g d ∨ g = f ∧ d = c) (bstep l least f s c) := by
  unfold bstep
  by_cases hm : may l least f c
  · rw [if_pos hm]
    have hp := may_pos hl0 hm
    rcases h with ⟨h1, h2, h3, h4, h5⟩ | ⟨h1, h2, h3, h4, h5, h6, h7⟩
    · by_cases hb : fx l f c * s.dn > s.up * fy l f c
      · rw [if_pos hb]
        rw [h3, h4] at hb
        refine .inr ⟨hf, .inr ⟨rfl, rfl⟩, hm, rfl, rfl, hb, fun g d hq hmg => ?_⟩
        rcases hq with hq | ⟨rfl, rfl⟩
        · have := frac_lt (may_pos hl0 hmg) (show (0 : Int) < l.length by omega) hp (h5 g d hq hmg) hb
          exact ⟨by show fx l g d * fy l f c ≤ fx l f c * fy l g d; omega, fun e => by have e : fx l g d * fy l f c = fx l f c * fy l g d := e; omega⟩
        · exact ⟨Int.le_refl _, fun _ => .inr ⟨rfl, Int.le_refl _⟩⟩
      · rw [if_neg hb]
        refine .inl ⟨h1, h2, h3, h4, fun g d hq hmg => ?_⟩
        rcases hq with hq | ⟨rfl, rfl⟩
        · exact h5 g d hq hmg
        · rw [h3, h4] at hb; omega
    · have hsp : 0 < s.dn := by rw [h5]; exact may_pos hl0 h3
      by_cases hb : fx l f c * s.dn > s.up * fy l f c
      · rw [if_pos hb]
        refine .inr ⟨hf, .inr ⟨rfl, rfl⟩, hm, rfl, rfl, ?_, fun g d hq hmg => ?_⟩
        · exact frac_lt (show (0 : Int) < l.length by omega) hsp hp (Int.le_of_lt h6) hb
        · rcases hq with hq | ⟨rfl, rfl⟩
          · have := frac_lt (may_pos hl0 hmg) hsp hp (h7 g d hq hmg).1 hb
            exact ⟨by show fx l g d * fy l f c ≤ fx l f c * fy l g d; omega, fun e => by have e : fx l g d * fy l f c = fx l f c * fy l g d := e; omega⟩
          · exact ⟨Int.le_refl _, fun _ => .inr ⟨rfl, Int.le_refl _⟩⟩
      · rw [if_neg hb]
        refine .inr ⟨h1, .inl h2, h3, h4, h5, h6, fun g d hq hmg => ?_⟩
        rcases hq with hq | ⟨rfl, rfl⟩
        · exact h7 g d hq hmg
        · exact ⟨by omega, fun _ => (hord _ _ h2).imp (fun h => h) (fun h => ⟨h.1, by omega⟩)⟩
  · rw [if_neg hm]
    refine h.elim (fun h => .inl ⟨h.1, h.2.1, h.2.2.1, h.2.2.2.1, fun g d hq hmg => ?_⟩) (fun h => .inr ⟨h.1, .inl h.2.1, h.2.2.1, h.2.2.2.1, h.2.2.2.2.1, h.2.2.2.2.2.1, fun g d hq hmg => ?_⟩)
    · rcases hq with hq | ⟨rfl, rfl⟩
      · exact h.2.2.2.2 g d hq hmg
      · exact absurd hmg hm
    · rcases hq with hq | ⟨rfl, rfl⟩
      · exact h.2.2.2.2.2.2 g d hq hmg
      · exact absurd hmg hm
theorem BestI.cuts {l : List Sample} {least f : Int} (hl0 : 1 ≤ least) (hf : 0 ≤ f) (hlen : 1 ≤ l.length) : ∀ (cs : List Int) {P : Int → Int → Prop} {s : BS}, BestI l least P s → cs.Pairwise (· < ·) → (∀ g d, P g d → g < f ∨ g = f ∧ ∀ c ∈ cs, d < c) →
    BestI l least (fun g d => P g d ∨ g = f ∧ d ∈ cs) (cs.foldl (bstep l least f) s)
  | [], P, s, h, _, _ => h.congr fun g c _ => by simp
  | c :: cs, P, s, h, hp, ho => by
    obtain ⟨hp1, hp2⟩ := List.pairwise_cons.1 hp
    have h1 := h.step hl0 hf hlen (c := c) (fun g d hq => (ho g d hq).imp (fun h => h) (fun h => ⟨h.1, h.2 c (by simp)⟩))
    have h2 := BestI.cuts hl0 hf hlen cs h1 hp2 (fun g d hq => by
      rcases hq with hq | ⟨rfl, rfl⟩
      · exact (ho g d hq).imp (fun h => h) (fun h => ⟨h.1, fun c' hc' => h.2 c' (by simp [hc'])⟩)
      · exact .inr ⟨rfl, hp1⟩)
    refine h2.congr fun g d _ => ?_
    simp only [List.mem_cons]
    constructor
    · rintro ((h | ⟨h1, h2⟩) | ⟨h1, h2⟩)
      · exact .inl h
      · exact .inr ⟨h1, .inl h2⟩
      · exact .inr ⟨h1, .inr h2⟩
    · rintro (h | ⟨h1, h2 | h2⟩)
      · exact .inl (.inl h)
      · exact .inl (.inr ⟨h1, h2⟩)
      · exact .inr ⟨h1, h2⟩

/-! ### the cuts -/
theorem mem_compact (a : List Int) (x : Int) : x ∈ Lib.compact a ↔ x ∈ a := by
  unfold Lib.compact Lib.compactUpTo
  rw [List.mem_map]
  constructor
  · rintro ⟨j, hj, rfl⟩
    have := (List.mem_filter.1 hj).1
    have hj' : j < a.length := by simpa using this
    simp [hj']
  · intro hx
    obtain ⟨i, hi, rfl⟩ := List.getElem_of_mem hx
    have key : ∀ i (hi : i < a.length), ∃ j, j ∈ (List.range a.length).filter (Lib.keeps a.toArray) ∧ a.toArray[j]! = a[i] := by
      intro i
      induction i with
      | zero =>
        intro hi
        exact ⟨0, List.mem_filter.2 ⟨by simpa using hi, Lib.keeps_lt_one _ 0 (by omega)⟩, by simp [hi]⟩
      | succ i ih =>
        intro hi
        by_cases he : a[i + 1] = a[i]
        · obtain ⟨j, h1, h2⟩ := ih (by omega)
          exact ⟨j, h1, by rw [h2, he]⟩
        · refine ⟨i + 1, List.mem_filter.2 ⟨by simpa using hi, Lib.keeps_pos ?_⟩, by simp [hi]⟩
          have hi2 : i < a.length := by omega
          simpa [hi, hi2] using he
    exact key i hi
theorem compact_sorted (a : List Int) (h : a.Pairwise (· ≤ ·)) : (Lib.compact a).Pairwise (· < ·) := by
  unfold Lib.compact Lib.compactUpTo
  rw [List.pairwise_map]
  refine (List.Pairwise.filter _ List.pairwise_lt_range).imp_of_mem ?_
  intro i j hi hj hij
  have h1 : i < a.length := by simpa using (List.mem_filter.1 hi).1
  have h2 : j < a.length := by simpa using (List.mem_filter.1 hj).1
  have hk := (List.mem_filter.1 hj).2
  unfold Lib.keeps at hk
  simp only [decide_eq_true_eq] at hk
  have hk : a[j] ≠ a[j - 1] := by
    rcases hk with hk | hk
    · omega
    · have h3 : j - 1 < a.length := by omega
      simpa [h2, h3] using hk
  have hs : ∀ p q (hp : p < a.length) (hq : q < a.length), p ≤ q → a[p] ≤ a[q] := by
    intro p q hp hq hpq
    by_cases he : p = q
    · subst he; exact Int.le_refl _
    · exact List.pairwise_iff_getElem.1 h p q hp hq (by omega)
  have e1 := hs i (j - 1) h1 (by omega) (by omega)
  have e2 := hs (j - 1) j (by omega) h2 (by omega)
  simp only [List.getElem!_toArray]
  simp only [h1, h2, getElem!_pos]
  omega
theorem mem_drop1 {S : List Int} (h : S.Pairwise (· < ·)) (x : Int) : x ∈ S.drop 1 ↔ x ∈ S ∧ ∃ y ∈ S, y < x := by
  cases S with
  | nil => simp
  | cons s S =>
    have hp := List.pairwise_cons.1 h
    simp only [List.drop_succ_cons, List.drop_zero, List.mem_cons]
    constructor
    · intro hx
      exact ⟨.inr hx, s, .inl rfl, hp.1 x hx⟩
    · rintro ⟨h1 | h1, y, h2 | h2, h3⟩
      · omega
      · have := hp.1 y h2; omega
      · exact h1
      · exact h1
theorem cuts_eq (l : List Sample) (f : Int) : cuts l f = (Lib.compact (isort (l.map (cell · f)))).drop 1 := by
  unfold cuts
  simp only [List.take_length]
  by_cases h : (isort (l.map (cell · f))).length = 0
  · have : isort (l.map (cell · f)) = [] := List.eq_nil_of_length_eq_zero h
    rw [this]; rfl
  · rw [show (min 1 ((isort (l.map (cell · f))).length : Int)).toNat = 1 by omega]
theorem cuts_sorted (l : List Sample) (f : Int) : (cuts l f).Pairwise (· < ·) := by
  rw [cuts_eq]
  exact (compact_sorted _ (isort_sorted _)).drop
theorem mem_cuts (l : List Sample) (f x : Int) : x ∈ cuts l f ↔ (∃ s ∈ l, cell s f = x) ∧ ∃ s ∈ l, cell s f < x := by
  rw [cuts_eq, mem_drop1 (compact_sorted _ (isort_sorted _)), mem_compact, (isort_perm _).mem_iff]
  simp only [mem_compact, (isort_perm _).mem_iff, List.mem_map]
  constructor
  · rintro ⟨⟨s, h1, h2⟩, y, ⟨s2, h3, rfl⟩, h4⟩
    exact ⟨⟨s, h1, h2⟩, s2, h3, h4⟩
  · rintro ⟨⟨s, h1, h2⟩, s2, h3, h4⟩
    exact ⟨⟨s, h1, h2⟩, _, ⟨s2, h3, rfl⟩, h4⟩
theorem may_cuts {l : List Sample} {least f c : Int} (hl0 : 1 ≤ least) (hm : may l least f c) : c ∈ cuts l f ↔ ∃ s ∈ l, cell s f = c := by
  rw [mem_cuts]
  constructor
  · exact fun h => h.1
  · intro h
    refine ⟨h, ?_⟩
    have h1 : 0 < (lowS l f c).length := by have := hm.1; omega
    obtain ⟨s, hs⟩ := List.exists_mem_of_length_pos h1
    obtain ⟨h2, h3⟩ := List.mem_filter.1 hs
    exact ⟨s, h2, by simpa [lowP] using h3⟩
/-- the questions that samples offer -/
def Offer (l : List Sample) (F g c : Int) : Prop := 0 ≤ g ∧ g < F ∧ ∃ s ∈ l, cell s g = c
theorem best_is {l : List Sample} {least : Int} (hl0 : 1 ≤ least) (hlen : 1 ≤ l.length) : ∀ (k : Nat) (f : Int) (s : BS), 0 ≤ f → BestI l least (fun g c => 0 ≤ g ∧ g < f ∧ c ∈ cuts l g) s → BestI l least (fun g c => 0 ≤ g ∧ g < f + k ∧ c ∈ cuts l g) ((feats f k).foldl (bfeat l least) s)
  | 0, f, s, _, h => h.congr fun g c _ => by simp
  | k + 1, f, s, h0, h => by
    rw [feats, List.foldl_cons]
    have h1 := h.cuts hl0 h0 hlen (cuts l f) (cuts_sorted l f) (fun g d hq => .inl hq.2.1)
    have h2 := best_is hl0 hlen k (f + 1) _ (by omega) (h1.congr (Q := fun g c => 0 ≤ g ∧ g < f + 1 ∧ c ∈ Dl.cuts l g) fun g c _ => by
      constructor
      · rintro (⟨a, b, c⟩ | ⟨rfl, c⟩)
        · exact ⟨a, by omega, c⟩
        · exact ⟨h0, by omega, c⟩
      · rintro ⟨a, b, c⟩
        by_cases hg : g = f
        · subst hg; exact .inr ⟨rfl, c⟩
        · exact .inl ⟨a, by omega, c⟩)
    refine h2.congr fun g c _ => ?_
    rw [show f + 1 + (k : Int) = f + ((k + 1 : Nat) : Int) by omega]
theorem bestS_is {l : List Sample} {F least : Int} (hl0 : 1 ≤ least) (hlen : 1 ≤ l.length) (hF : 0 ≤ F) : BestI l least (Offer l F) (bestS l F least) := by
  have h := best_is hl0 hlen F.toNat 0 _ (Int.le_refl 0) (BestI.start.congr (fun g c _ => by constructor; exact fun h => h.elim; rintro ⟨a, b, _⟩; omega))
  refine h.congr fun g c hm => ?_
  rw [may_cuts hl0 hm]
  unfold Offer
  rw [show (0 : Int) + (F.toNat : Int) = F by omega]
theorem BestI.uniq {l : List Sample} {least : Int} (hl0 : 1 ≤ least) {P : Int → Int → Prop} {s s' : BS} (h : BestI l least P s) (h' : BestI l least P s') : s.ft = s'.ft ∧ s.ct = s'.ct := by
  rcases h with ⟨h1, h2, h3, h4, h5⟩ | ⟨h1, h2, h3, h4, h5, h6, h7⟩ <;> rcases h' with ⟨k1, k2, k3, k4, k5⟩ | ⟨k1, k2, k3, k4, k5, k6, k7⟩
  · exact ⟨by omega, by omega⟩
  · have := h5 _ _ k2 k3
    rw [k4, k5] at k6; omega
  · have := k5 _ _ h2 h3
    rw [h4, h5] at h6; omega
  · have a := h7 _ _ k2 k3
    have b := k7 _ _ h2 h3
    rw [h4, h5] at a
    rw [k4, k5] at b
    have e1 := a.2 (by have := a.1; have := b.1; grind)
    have e2 := b.2 (by have := a.1; have := b.1; grind)
    omega
end Go.Dl
