/- Printed by wip/gen: what the functions compute, in plain Lean. -/
import Derived.Test.YtbalmknhjokgaaaDlFs
set_option linter.unusedVariables false
namespace Go.Dl

structure Sample where
  row : List Int
  target : Int
  deriving DecidableEq

structure Node where
  feature : Int
  cut : Int
  left : Int
  right : Int
  less : Bool
  value : Int
  deriving DecidableEq

structure Grove where
  features : Int
  way : Int
  weights : List Int
  trees : List (List Node)
  deriving DecidableEq

structure Use where
  feature : Int
  nodes : Int
  gain : Int
  deriving DecidableEq

structure Answer where
  number : Int
  index : Int
  deriving DecidableEq

structure Call where
  what : Int
  session : Int
  seq : Int
  name : ByteArray
  number : Int
  share : Int
  bytes : List Int
  deriving DecidableEq

structure Version where
  name : ByteArray
  number : Int
  stage : Int
  share : Int
  deriving DecidableEq

structure Score where
  value : Int
  version : Int
  index : Int
  deriving DecidableEq

def eqNode (x y : Node) : Bool := ((x.feature == y.feature) && ((x.cut == y.cut) && ((x.left == y.left) && ((x.right == y.right) && ((x.less == y.less) && ((x.value == y.value) && true))))))

def fixed_Floor (N : Nat) (v_a1 : Int) (v_b2 : Int) : Option Int :=
  (nz v_b2).bind fun v_q3 =>
  (nz v_b2).bind fun v_q4 =>
  if (decide ((v_a1.tmod v_b2) < 0)) then (
    some (w64 ((w64 (v_a1.tdiv v_b2)) - 1)))
  else (
    some (w64 (v_a1.tdiv v_b2)))

def cut_Cell (N : Nat) (v_n1 : Int) : Option Bool :=
  some ((decide (v_n1 ≥ (-1000000))) && (decide (v_n1 ≤ 1000000)))

def grow_Least (N : Nat) (v_n1 : Int) : Option Bool :=
  some ((decide (v_n1 ≥ 1)) && (decide (v_n1 ≤ 60)))

def slices_Index_j1 (N : Nat)  : Option Int :=
  some (-1)

def slices_Index_l1 (N : Nat) (v_s1 : List Int) (v_v2 : Int) : Nat → Int → Option Int
  | 0, _ => none
  | n_1 + 1, v_t11 =>
    if (decide (v_t11 < (v_s1.length : Int))) then (
      (ix v_s1 v_t11).bind fun v_y12 =>
      if (v_v2 == v_y12) then (
        some v_t11)
      else (
        (slices_Index_l1 N v_s1 v_v2 n_1) (w64 (v_t11 + 1))))
    else (
      slices_Index_j1 N)

def slices_Index (N : Nat) (v_s1 : List Int) (v_v2 : Int) : Option Int :=
  slices_Index_l1 N v_s1 v_v2 N 0

def slices_Contains (N : Nat) (v_s1 : List Int) (v_v2 : Int) : Option Bool :=
  (slices_Index N v_s1 v_v2).bind fun v_r3 =>
  some (decide (v_r3 ≥ 0))

def row_Check_j1 (N : Nat)  : Option (Option Int) :=
  some none

def row_Check_l1 (N : Nat) (v_row1 : List Int) : Nat → Int → Option (Option Int)
  | 0, _ => none
  | n_1 + 1, v_t15 =>
    if (decide (v_t15 < (v_row1.length : Int))) then (
      (ix v_row1 v_t15).bind fun v_y16 =>
      (gd (v_y16 != (-1125899906842624)) (cut_Cell N v_y16) false).bind fun v_r17 =>
      if ((v_y16 != (-1125899906842624)) && (!v_r17)) then (
        some (some 1))
      else (
        (row_Check_l1 N v_row1 n_1) (w64 (v_t15 + 1))))
    else (
      row_Check_j1 N)

def row_Check (N : Nat) (v_row1 : List Int) : Option (Option Int) :=
  if (decide ((v_row1.length : Int) > 8)) then (
    some (some 4))
  else (
    row_Check_l1 N v_row1 N 0)

def grow_sum_j1 (N : Nat) (v_n9 : Int) : Option Int :=
  some v_n9

def grow_sum_l1 (N : Nat) (v_l1 : List Sample) : Nat → Int → Int → Option Int
  | 0, _, _ => none
  | n_1 + 1, v_n14, v_t15 =>
    if (decide (v_t15 < (v_l1.length : Int))) then (
      (ix v_l1 v_t15).bind fun v_y16 =>
      (grow_sum_l1 N v_l1 n_1) (w64 (v_n14 + v_y16.target)) (w64 (v_t15 + 1)))
    else (
      grow_sum_j1 N v_n14)

def grow_sum (N : Nat) (v_l1 : List Sample) : Option Int :=
  grow_sum_l1 N v_l1 N 0 0

def grow_part_j1 (N : Nat) (v_below22 : List Sample) (v_rest23 : List Sample) : Option ((List Sample) × (List Sample)) :=
  some (v_below22, v_rest23)

def grow_part_l1 (N : Nat) (v_l1 : List Sample) (v_feature2 : Int) (v_cut3 : Int) : Nat → (List Sample) → (List Sample) → Int → Option ((List Sample) × (List Sample))
  | 0, _, _, _ => none
  | n_1 + 1, v_below35, v_rest36, v_t37 =>
    if (decide (v_t37 < (v_l1.length : Int))) then (
      (ix v_l1 v_t37).bind fun v_y38 =>
      (ix v_y38.row v_feature2).bind fun v_y39 =>
      if (decide (v_y39 < v_cut3)) then (
        (app v_below35 [v_y38]).bind fun v_t40 =>
        (grow_part_l1 N v_l1 v_feature2 v_cut3 n_1) v_t40 v_rest36 (w64 (v_t37 + 1)))
      else (
        (app v_rest36 [v_y38]).bind fun v_t41 =>
        (grow_part_l1 N v_l1 v_feature2 v_cut3 n_1) v_below35 v_t41 (w64 (v_t37 + 1))))
    else (
      grow_part_j1 N v_below35 v_rest36)

def grow_part (N : Nat) (v_l1 : List Sample) (v_feature2 : Int) (v_cut3 : Int) : Option ((List Sample) × (List Sample)) :=
  grow_part_l1 N v_l1 v_feature2 v_cut3 N [] [] 0

def grow_best_j1 (N : Nat) (v_t430 : Int) (v_t431 : Int) : Option (Int × Int) :=
  some (v_t430, v_t431)

def grow_best_j2 (N : Nat) (kn_grow_best_l1 : Int → Int → Int → Int → Int → Option (Int × Int)) (v_t719 : Int) (v_t787 : Int) (v_t788 : Int) (v_t789 : Int) (v_t790 : Int) : Option (Int × Int) :=
  kn_grow_best_l1 v_t787 v_t788 v_t789 v_t790 (w64 (v_t719 + 1))

def grow_best_l2 (N : Nat) (v_t807 : List Int) (v_a1 : List Sample) (v_t719 : Int) (v_a3 : Int) (kn_grow_best_l1 : Int → Int → Int → Int → Int → Option (Int × Int)) : Nat → Int → Int → Int → Int → Int → Option (Int × Int)
  | 0, _, _, _, _, _ => none
  | n_2 + 1, v_t831, v_t832, v_t833, v_t834, v_t835 =>
    if (decide (v_t835 < (v_t807.length : Int))) then (
      (ix v_t807 v_t835).bind fun v_y836 =>
      (grow_part N v_a1 v_t719 v_y836).bind fun v_r837 =>
      if ((decide ((v_r837.1.length : Int) < v_a3)) || (decide ((v_r837.2.length : Int) < v_a3))) then (
        (grow_best_l2 N v_t807 v_a1 v_t719 v_a3 kn_grow_best_l1 n_2) v_t831 v_t832 v_t833 v_t834 (w64 (v_t835 + 1)))
      else (
        (grow_sum N v_r837.1).bind fun v_r838 =>
        (grow_sum N v_r837.1).bind fun v_r839 =>
        (some (w64 ((w64 (v_r838 * v_r839)) * (v_r837.2.length : Int)))).bind fun v_t840 =>
        (grow_sum N v_r837.2).bind fun v_r841 =>
        (grow_sum N v_r837.2).bind fun v_r842 =>
        (some (w64 ((w64 (v_r841 * v_r842)) * (v_r837.1.length : Int)))).bind fun v_t843 =>
        (some (w64 ((v_r837.1.length : Int) * (v_r837.2.length : Int)))).bind fun v_t844 =>
        if (decide ((w64 ((w64 (v_t840 + v_t843)) * v_t834)) > (w64 (v_t833 * v_t844)))) then (
          (grow_best_l2 N v_t807 v_a1 v_t719 v_a3 kn_grow_best_l1 n_2) v_t719 v_y836 (w64 (v_t840 + v_t843)) v_t844 (w64 (v_t835 + 1)))
        else (
          (grow_best_l2 N v_t807 v_a1 v_t719 v_a3 kn_grow_best_l1 n_2) v_t831 v_t832 v_t833 v_t834 (w64 (v_t835 + 1)))))
    else (
      grow_best_j2 N kn_grow_best_l1 v_t719 v_t831 v_t832 v_t833 v_t834)

def grow_best_j3 (N : Nat) (v_a1 : List Sample) (v_t719 : Int) (v_a3 : Int) (kn_grow_best_l1 : Int → Int → Int → Int → Int → Option (Int × Int)) (v_t715 : Int) (v_t716 : Int) (v_t717 : Int) (v_t718 : Int) (v_t804 : List Int) : Option (Int × Int) :=
  (slices_Sort N v_t804).bind fun v_r805 =>
  (slices_Compact N v_r805).bind fun v_r806 =>
  (sub v_r806 (min 1 (v_r805.length : Int)) (v_r806.length : Int)).bind fun v_t807 =>
  grow_best_l2 N v_t807 v_a1 v_t719 v_a3 kn_grow_best_l1 N v_t715 v_t716 v_t717 v_t718 0

def grow_best_l3 (N : Nat) (v_a1 : List Sample) (v_t719 : Int) (v_a3 : Int) (kn_grow_best_l1 : Int → Int → Int → Int → Int → Option (Int × Int)) (v_t715 : Int) (v_t716 : Int) (v_t717 : Int) (v_t718 : Int) : Nat → (List Int) → Int → Option (Int × Int)
  | 0, _, _ => none
  | n_3 + 1, v_t853, v_t854 =>
    if (decide (v_t854 < (v_a1.length : Int))) then (
      (ix v_a1 v_t854).bind fun v_y855 =>
      (ix v_y855.row v_t719).bind fun v_y856 =>
      (app v_t853 [v_y856]).bind fun v_t857 =>
      (grow_best_l3 N v_a1 v_t719 v_a3 kn_grow_best_l1 v_t715 v_t716 v_t717 v_t718 n_3) v_t857 (w64 (v_t854 + 1)))
    else (
      grow_best_j3 N v_a1 v_t719 v_a3 kn_grow_best_l1 v_t715 v_t716 v_t717 v_t718 v_t853)

def grow_best_l1 (N : Nat) (v_a2 : Int) (v_a1 : List Sample) (v_a3 : Int) : Nat → Int → Int → Int → Int → Int → Option (Int × Int)
  | 0, _, _, _, _, _ => none
  | n_1 + 1, v_t715, v_t716, v_t717, v_t718, v_t719 =>
    if (decide (v_t719 < v_a2)) then (
      grow_best_l3 N v_a1 v_t719 v_a3 (grow_best_l1 N v_a2 v_a1 v_a3 n_1) v_t715 v_t716 v_t717 v_t718 N [] 0)
    else (
      grow_best_j1 N v_t715 v_t716)

def grow_best (N : Nat) (v_a1 : List Sample) (v_a2 : Int) (v_a3 : Int) : Option (Int × Int) :=
  (grow_sum N v_a1).bind fun v_r4 =>
  (grow_sum N v_a1).bind fun v_r5 =>
  grow_best_l1 N v_a2 v_a1 v_a3 N (-1) 0 (w64 (v_r4 * v_r5)) (v_a1.length : Int) 0

def grow_Check_j1 (N : Nat)  : Option (Int × (Option Int)) :=
  some (0, none)

def grow_Check_l1 (N : Nat) (v_a1 : List Sample) (v_a2 : Int) : Nat → Int → Option (Int × (Option Int))
  | 0, _ => none
  | n_1 + 1, v_t21 =>
    if (decide (v_t21 < (v_a1.length : Int))) then (
      (ix v_a1 v_t21).bind fun v_y22 =>
      (row_Check N v_y22.row).bind fun v_r23 =>
      if v_r23.isSome then (
        some (v_t21, v_r23))
      else (
        if ((decide (v_y22.target < (-1000))) || (decide (v_y22.target > 1000))) then (
          some (v_t21, (some 1)))
        else (
          if ((v_y22.row.length : Int) != v_a2) then (
            some (v_t21, (some 3)))
          else (
            (slices_Contains N v_y22.row (-1125899906842624)).bind fun v_r24 =>
            if v_r24 then (
              some (v_t21, (some 5)))
            else (
              (grow_Check_l1 N v_a1 v_a2 n_1) (w64 (v_t21 + 1)))))))
    else (
      grow_Check_j1 N)

def grow_Check (N : Nat) (v_a1 : List Sample) (v_a2 : Int) : Option (Int × (Option Int)) :=
  if (decide ((v_a1.length : Int) > 60)) then (
    some (0, (some 4)))
  else (
    if ((v_a1.length : Int) == 0) then (
      some (0, (some 5)))
    else (
      if ((decide (v_a2 < 0)) || (decide (v_a2 > 8))) then (
        some (0, (some 1)))
      else (
        grow_Check_l1 N v_a1 v_a2 N 0)))

def grow_Grow_j1 (N : Nat) (v_a2 : List Sample) (v_a1 : List Node) (kr_grow_Grow : (List Node) → (List Sample) → Int → Int → Int → Option (List Node)) (v_a3 : Int) (v_a4 : Int) (v_a5 : Int) (v_t7 : Int) (v_t8 : Int) : Option (List Node) :=
  if (decide (v_t7 < 0)) then (
    (grow_sum N v_a2).bind fun v_r9 =>
    (fixed_Floor N v_r9 (v_a2.length : Int)).bind fun v_r10 =>
    (app v_a1 [(Node.mk (-1) 0 0 0 false v_r10)]).bind fun v_t11 =>
    some v_t11)
  else (
    (grow_part N v_a2 v_t7 v_t8).bind fun v_r12 =>
    (app v_a1 [(Node.mk v_t7 v_t8 (w64 ((v_a1.length : Int) + 1)) 0 (decide ((v_r12.1.length : Int) > (v_r12.2.length : Int))) 0)]).bind fun v_t13 =>
    (kr_grow_Grow v_t13 v_r12.1 v_a3 (w64 (v_a4 - 1)) v_a5).bind fun v_r14 =>
    (ix v_r14 (v_a1.length : Int)).bind fun v_y15 =>
    (kr_grow_Grow (v_r14.set (v_a1.length : Int).toNat ({ v_y15 with right := (v_r14.length : Int) })) v_r12.2 v_a3 (w64 (v_a4 - 1)) v_a5).bind fun v_r16 =>
    some v_r16)

def grow_Grow : Nat → (List Node) → (List Sample) → Int → Int → Int → Option (List Node)
  | 0, _, _, _, _, _ => none
  | N + 1, v_a1, v_a2, v_a3, v_a4, v_a5 =>
    if (decide (v_a4 > 0)) then (
      (grow_best N v_a2 v_a3 v_a5).bind fun v_r17 =>
      grow_Grow_j1 N v_a2 v_a1 (grow_Grow N) v_a3 v_a4 v_a5 v_r17.1 v_r17.2)
    else (
      grow_Grow_j1 N v_a2 v_a1 (grow_Grow N) v_a3 v_a4 v_a5 (-1) 0)

def grow_Fit (N : Nat) (v_l1 : List Sample) (v_features2 : Int) (v_depth3 : Int) (v_least4 : Int) : Option ((List Node) × (Option Int)) :=
  (grow_Check N v_l1 v_features2).bind fun v_r5 =>
  if v_r5.2.isSome then (
    some ([], v_r5.2))
  else (
    (gd (!((decide (v_depth3 < 0)) || (decide (v_depth3 > 5)))) (grow_Least N v_least4) false).bind fun v_r6 =>
    if (((decide (v_depth3 < 0)) || (decide (v_depth3 > 5))) || (!v_r6)) then (
      some ([], (some 1)))
    else (
      (grow_Grow N [] v_l1 v_features2 v_depth3 v_least4).bind fun v_r7 =>
      some (v_r7, none)))

def orchlaw4_GrowShifts_j2 (N : Nat)  : Option Bool :=
  some true

def orchlaw4_GrowShifts_j3 (N : Nat) (v_r23 : (List Node) × (Option Int)) (v_t43 : Int) (v_y44 : Node) (kn_orchlaw4_GrowShifts_l1 : Int → Option Bool) (v_t45 : Int) : Option Bool :=
  (ix v_r23.1 v_t43).bind fun v_y46 =>
  if (!(eqNode v_y46 (Node.mk v_y44.feature v_y44.cut v_y44.left v_y44.right v_y44.less v_t45))) then (
    some false)
  else (
    kn_orchlaw4_GrowShifts_l1 (w64 (v_t43 + 1)))

def orchlaw4_GrowShifts_l1 (N : Nat) (v_r23 : (List Node) × (Option Int)) (v_r8 : (List Node) × (Option Int)) (v_a5 : Int) : Nat → Int → Option Bool
  | 0, _ => none
  | n_1 + 1, v_t43 =>
    if (decide (v_t43 < (v_r23.1.length : Int))) then (
      (ix v_r8.1 v_t43).bind fun v_y44 =>
      if (v_y44.feature == (-1)) then (
        orchlaw4_GrowShifts_j3 N v_r23 v_t43 v_y44 (orchlaw4_GrowShifts_l1 N v_r23 v_r8 v_a5 n_1) (w64 (v_y44.value + v_a5)))
      else (
        orchlaw4_GrowShifts_j3 N v_r23 v_t43 v_y44 (orchlaw4_GrowShifts_l1 N v_r23 v_r8 v_a5 n_1) v_y44.value))
    else (
      orchlaw4_GrowShifts_j2 N)

def orchlaw4_GrowShifts_j1 (N : Nat) (v_a2 : Int) (v_a3 : Int) (v_a4 : Int) (v_r8 : (List Node) × (Option Int)) (v_a5 : Int) (v_t22 : List Sample) : Option Bool :=
  (grow_Fit N v_t22 v_a2 v_a3 v_a4).bind fun v_r23 =>
  if v_r23.2.isSome then (
    (grow_Check N v_t22 v_a2).bind fun v_r24 =>
    some v_r24.2.isSome)
  else (
    if ((v_r23.1.length : Int) != (v_r8.1.length : Int)) then (
      some false)
    else (
      orchlaw4_GrowShifts_l1 N v_r23 v_r8 v_a5 N 0))

def orchlaw4_GrowShifts_l2 (N : Nat) (v_a1 : List Sample) (v_a5 : Int) (v_a2 : Int) (v_a3 : Int) (v_a4 : Int) (v_r8 : (List Node) × (Option Int)) : Nat → (List Sample) → Int → Option Bool
  | 0, _, _ => none
  | n_2 + 1, v_t55, v_t56 =>
    if (decide (v_t56 < (v_a1.length : Int))) then (
      (ix v_a1 v_t56).bind fun v_y57 =>
      (ix v_a1 v_t56).bind fun v_y58 =>
      (app v_t55 [(Sample.mk v_y57.row (w64 (v_y58.target + v_a5)))]).bind fun v_t59 =>
      (orchlaw4_GrowShifts_l2 N v_a1 v_a5 v_a2 v_a3 v_a4 v_r8 n_2) v_t59 (w64 (v_t56 + 1)))
    else (
      orchlaw4_GrowShifts_j1 N v_a2 v_a3 v_a4 v_r8 v_a5 v_t55)

def orchlaw4_GrowShifts (N : Nat) (v_a1 : List Sample) (v_a2 : Int) (v_a3 : Int) (v_a4 : Int) (v_a5 : Int) : Option Bool :=
  (grow_Fit N [(Sample.mk [1] 5), (Sample.mk [2] 9)] 1 1 1).bind fun v_r6 =>
  (gd (!(v_r6.2.isSome || ((v_r6.1.length : Int) != 3))) (ix v_r6.1 1) (Node.mk 0 0 0 0 false 0)).bind fun v_y7 =>
  if ((v_r6.2.isSome || ((v_r6.1.length : Int) != 3)) || (v_y7.value != 5)) then (
    some false)
  else (
    (grow_Fit N v_a1 v_a2 v_a3 v_a4).bind fun v_r8 =>
    if ((v_r8.2.isSome || (decide (v_a5 < (-2000)))) || (decide (v_a5 > 2000))) then (
      some true)
    else (
      orchlaw4_GrowShifts_l2 N v_a1 v_a5 v_a2 v_a3 v_a4 v_r8 N [] 0))

end Go.Dl
