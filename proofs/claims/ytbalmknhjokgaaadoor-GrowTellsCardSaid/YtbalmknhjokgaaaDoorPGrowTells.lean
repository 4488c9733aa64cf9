/- GrowTells, the plain law. -/
import Derived.Test.YtbalmknhjokgaaaDoorPGrowRef
import Derived.Test.YtbalmknhjokgaaaDoorPWrong
import Derived.Test.YtbalmknhjokgaaaDoorDO
set_option linter.unusedVariables false
namespace Go.Dl

theorem ready_ref {N : Nat} (hN : 1000 < N) (t : List Node) (l : List Sample) : orchref2_Ready N t l = some (readyF t l) := by
  unfold orchref2_Ready
  cases l with
  | nil => rfl
  | cons s l =>
    rw [if_neg (by simp; omega), show (0 : Int) = ((0 : Nat) : Int) from rfl, ix_get (s :: l) 0 (by simp)]
    simp only [Option.bind_some, List.getElem_cons_zero]
    rw [refTree (by omega), sam_ref hN]
    simp only [Option.bind_some, readyF]
    by_cases h : (treeF t s.row.length).2 = 0
    · simp [h]
    · simp [h]
theorem wrongref_l {N : Nat} (hN : 64 < N) {t : List Node} {F : Int} (hr : Right t F) (l : List Sample) (hw : Wide l F) (ht : Tb l) (hl : l.length ≤ 60) : ∀ (n i : Nat) (acc : Int), i ≤ l.length → l.length - i < n → 0 ≤ acc → acc ≤ 1002001000000 * i →
    orchref2_Wrong_l1 N l t n acc (i : Int) = some (acc + wrongF t (l.drop i))
  | 0, i, acc, _, _, _, _ => by omega
  | n + 1, i, acc, h1, h2, h3, h4 => by
    rw [orchref2_Wrong_l1]
    by_cases hi : i < l.length
    · have hi' : (i : Int) < (l.length : Int) := by omega
      have hw1 := hw l[i] (List.getElem_mem hi)
      have ht1 := ht l[i] (List.getElem_mem hi)
      have hv := valueOf_bd hr (r := l[i].row) (by omega)
      simp only [hi', decide_true, if_true, ix_get l i hi, Option.bind_some, w64_succ i (by omega)]
      rw [value_ref hr (by omega) hN]
      simp only [Option.bind_some]
      rw [w64_id (n := l[i].target - valueOf t l[i].row) (by omega) (by omega)]
      have hs := sq_bd2 (x := l[i].target - valueOf t l[i].row) (by omega) (by omega)
      have es : (l[i].target - valueOf t l[i].row) * (l[i].target - valueOf t l[i].row) = sq (l[i].target - valueOf t l[i].row) := rfl
      rw [es, w64_id (n := sq _) (by omega) (by omega), w64_id (n := acc + _) (by omega) (by omega), wrongref_l hN hr l hw ht hl n (i + 1) _ (by omega) (by omega) (by omega) (by omega), List.drop_eq_getElem_cons hi, wrongF]
      congr 1; omega
    · have hi' : ¬ (i : Int) < (l.length : Int) := by omega
      simp only [hi', decide_false, Bool.false_eq_true, if_false, orchref2_Wrong_j1]
      rw [List.drop_eq_nil_of_le (by omega)]; simp [wrongF]
theorem wrong_ref {N : Nat} (hN : 1000 < N) (t : List Node) (l : List Sample) (h : readyF t l = 0) : orchref2_Wrong N t l = some (wrongF t l) := by
  obtain ⟨F, hr, hs⟩ := ready_ok h
  have := wrongref_l (N := N) (by omega) hr l hs.wide hs.tb hs.len1 N 0 0 (by omega) (by have := hs.len1; omega) (by omega) (by omega)
  simp only [List.drop_zero, Int.cast_ofNat_Int, Int.zero_add] at this
  exact this
theorem eqNode_refl (x : Node) : eqNode x x = true := by simp [eqNode]
theorem nodes_l (N : Nat) (l : List Node) (hl : l.length ≤ 1000000) : ∀ (n i : Nat), i ≤ l.length → l.length - i < n → orchsame_Nodes_l1 N l l n (i : Int) = some true
  | 0, i, _, _ => by omega
  | n + 1, i, h1, h2 => by
    rw [orchsame_Nodes_l1]
    by_cases hi : i < l.length
    · have hi' : (i : Int) < (l.length : Int) := by omega
      simp only [hi', decide_true, if_true, ix_get l i hi, Option.bind_some, w64_succ i (by omega), eqNode_refl]
      exact nodes_l N l hl n (i + 1) (by omega) (by omega)
    · have hi' : ¬ (i : Int) < (l.length : Int) := by omega
      simp only [hi', decide_false, Bool.false_eq_true, if_false, orchsame_Nodes_j1]
theorem nodes_same {N : Nat} (l : List Node) (hl : l.length < N) (h2 : l.length ≤ 1000000) : orchsame_Nodes N l l = some true := by
  unfold orchsame_Nodes
  rw [if_neg (by simp)]
  have := nodes_l N l h2 N 0 (by omega) (by omega)
  simpa using this
theorem err_eo (N : Nat) (x : Int) : orchsame_Error N (eo x) x = some true := by
  unfold orchsame_Error plain_Told eo
  by_cases h : x = 0
  · simp [h]
  · simp [h]
theorem err_some (N : Nat) (x : Int) : orchsame_Error N (some x) x = some true := by simp [orchsame_Error, plain_Told]
theorem err_none (N : Nat) : orchsame_Error N none 0 = some true := by simp [orchsame_Error, plain_Told]

theorem growTells {N : Nat} (hN : 2000 < N) (l : List Sample) (F d least : Int) (t : List Node) : orchlaw2_GrowTells N l F d least t = some true := by
  unfold orchlaw2_GrowTells
  rw [sam_ref (by omega), sam_chk (by omega)]
  simp only [Option.bind_some, err_eo]
  rw [if_neg (by simp)]
  have hsm : (samplesF l F).2 = 0 → Sams l F := sams_of
  -- the end, of whatever has come
  have j4 : ∀ (e : Int) (y : List Node × Option Int) (w : List Node) (p : Int × Int × Option Int), grow_Fit N l F d least = some y → orchsame_Error N y.2 e = some true → orchsame_Nodes N y.1 w = some true →
      orchlaw2_GrowTells_j4 N l F d least e t true p p.1 p.2.1 w = some true := by
    intro e y w p h1 h2 h3
    unfold orchlaw2_GrowTells_j4
    rw [h1]
    simp only [Option.bind_some]
    rw [h2, h3, ready_ref (by omega)]
    simp only [Option.bind_some]
    unfold orchlaw2_GrowTells_j5
    by_cases hr : readyF t l = 0
    · rw [if_pos (by simpa using hr), wrong_ref (by omega) t l hr]
      simp only [Option.bind_some]
      rw [wrong_ok (by omega), if_pos hr]
      simp only [Option.bind_some, hr, err_none]
      simp
    · rw [if_neg (by simpa using hr), wrong_ok (by omega), if_neg hr]
      simp only [Option.bind_some, err_some]
      simp
  have j3 : ∀ (e : Int) (p : Int × Int × Option Int), (e = if (samplesF l F).2 = 0 ∧ (d < 0 ∨ d > 5 ∨ least < 1 ∨ least > 60) then 1 else (samplesF l F).2) → orchlaw2_GrowTells_j3 N l F d least t true p p.1 p.2.1 e = some true := by
    intro e p he
    unfold orchlaw2_GrowTells_j3
    have hf := fit_ok (N := N) (by omega) l F d least
    by_cases hs : (samplesF l F).2 = 0
    · rw [if_neg (by simpa using hs)] at hf
      by_cases hb : d < 0 ∨ d > 5 ∨ least < 1 ∨ least > 60
      · rw [if_pos ⟨hs, hb⟩] at he
        rw [if_pos hb] at hf
        subst he
        rw [if_neg (by decide)]
        exact j4 1 _ [] p hf (err_some N 1) (nodes_same [] (by simp; omega) (by simp))
      · rw [if_neg (by omega), hs] at he
        rw [if_neg hb] at hf
        subst he
        have hsm := hsm hs
        have h64 : 2 ^ (d.toNat + 1) ≤ 2 ^ 6 := Nat.pow_le_pow_right (by omega) (by omega)
        have hg := grow_ref (F := F) (least := least) (by omega) hsm.f0 (by have := hsm.f8; omega) d.toNat N [] l (by omega) (by omega) hsm.wide hsm.tb hsm.len0 hsm.len1 (by simp; omega)
        rw [show ((d.toNat : Nat) : Int) = d by omega] at hg
        rw [if_pos (by decide), hg]
        simp only [Option.bind_some, List.nil_append, List.length_nil]
        have hsz := growT_size F least d.toNat l
        exact j4 0 _ _ p hf (err_none N) (nodes_same _ (by rw [lay_len]; omega) (by rw [lay_len]; omega))
    · rw [if_neg (by simp [hs])] at he
      rw [if_pos (by simpa using hs)] at hf
      subst he
      rw [if_neg (by simpa using hs)]
      exact j4 _ _ [] p hf (err_some N _) (nodes_same [] (by simp; omega) (by simp))
  have j2 : ∀ (f x c : Int) (p : Int × Int × Option Int), grow_Split N l F least = some p → orchsame_Error N p.2.2 f = some true → p.1 = x → p.2.1 = c → orchlaw2_GrowTells_j2 N l F least (samplesF l F) d t f x c = some true := by
    intro f x c p h1 h2 h3 h4
    unfold orchlaw2_GrowTells_j2
    rw [h1]
    simp only [Option.bind_some]
    rw [h2]
    simp only [Option.bind_some]
    subst h3 h4
    by_cases hc : (((samplesF l F).2 == 0) && ((((decide (d < 0)) || (decide (d > 5))) || (decide (least < 1))) || (decide (least > 60)))) = true
    · rw [if_pos hc]
      refine j3 1 p ?_
      rw [if_pos]
      simp only [Bool.and_eq_true, beq_iff_eq, Bool.or_eq_true, decide_eq_true_eq] at hc
      exact ⟨hc.1, by omega⟩
    · rw [if_neg hc]
      refine j3 _ p ?_
      rw [if_neg]
      intro h
      apply hc
      simp only [Bool.and_eq_true, beq_iff_eq, Bool.or_eq_true, decide_eq_true_eq]
      exact ⟨h.1, by omega⟩
  have hchk := sam_chk (N := N) (by omega) l F
  by_cases hs : (samplesF l F).2 = 0
  · have hsm := hsm hs
    rw [samplesF_ok hs] at hchk
    by_cases hb : least < 1 ∨ least > 60
    · rw [if_pos (by simpa [hs] using hb)]
      unfold orchlaw2_GrowTells_j1
      rw [if_neg (by decide)]
      refine j2 1 0 0 (0, 0, some 1) ?_ (err_some N 1) rfl rfl
      unfold grow_Split
      rw [hchk]
      simp only [Option.bind_some, eo, if_true, Option.isSome_none, Bool.false_eq_true, if_false, least_eq]
      rw [if_pos]
      simp; omega
    · rw [if_neg (by simpa [hs] using hb), hs]
      unfold orchlaw2_GrowTells_j1
      rw [if_pos (by decide), split_ref hsm.wide hsm.tb hsm.len1 (by omega) (by omega) hsm.f0 (by have := hsm.f8; omega) hsm.len0]
      simp only [Option.bind_some]
      have hsp : grow_Split N l F least = if (bestS l F least).ft < 0 then some (0, 0, some 5) else some ((bestS l F least).ft, (bestS l F least).ct, none) := by
        unfold grow_Split
        rw [hchk]
        simp only [Option.bind_some, eo, if_true, Option.isSome_none, Bool.false_eq_true, if_false, least_eq]
        rw [if_neg (by simp; omega), best_eq hsm.wide hsm.tb hsm.len1 (by omega) (by omega) hsm.f0 (by have := hsm.f8; omega) hsm.len0]
        simp only [Option.bind_some, decide_eq_true_eq]
      by_cases hf : (bestS l F least).ft < 0
      · rw [if_pos hf] at hsp
        rw [if_neg (by simp; omega)]
        exact j2 5 0 0 _ hsp (err_some N 5) rfl rfl
      · rw [if_neg hf] at hsp
        rw [if_pos (by simp; omega)]
        refine j2 0 _ _ _ hsp (err_none N) ?_ rfl
        simp only [FE]
        rw [if_pos (by omega)]
  · rw [if_neg (by simp [hs])]
    unfold orchlaw2_GrowTells_j1
    rw [if_neg (by simpa using hs)]
    refine j2 _ 0 0 (0, 0, some (samplesF l F).2) ?_ (err_some N _) rfl rfl
    unfold grow_Split
    rw [hchk]
    simp [eo, hs]
theorem law_GrowTells (l : List Sample) (a b c : Int) (t : List Node) (h0 : okLSample l) (h1 : okI a) (h2 : okI b) (h3 : okI c) (h4 : okLNode t) : ∃ N, orchlaw2_GrowTells N l a b c t = some true := ⟨2001, growTells (by omega) l a b c t⟩
end Go.Dl
