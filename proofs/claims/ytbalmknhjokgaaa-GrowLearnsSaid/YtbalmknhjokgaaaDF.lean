/- Printed by wip/gen: what the functions compute, in plain Lean. -/
import Derived.Test.YtbalmknhjokgaaaDlFs
set_option linter.unusedVariables false
namespace Go.Dl

structure Sample where
  row : List Int
  target : Int
  deriving DecidableEq

structure Node where
  feature : Int
  cut : Int
  left : Int
  right : Int
  less : Bool
  value : Int
  deriving DecidableEq

structure Grove where
  features : Int
  way : Int
  weights : List Int
  trees : List (List Node)
  deriving DecidableEq

structure Use where
  feature : Int
  nodes : Int
  gain : Int
  deriving DecidableEq

structure Answer where
  number : Int
  index : Int
  deriving DecidableEq

structure Call where
  what : Int
  session : Int
  seq : Int
  name : ByteArray
  number : Int
  share : Int
  bytes : List Int
  deriving DecidableEq

structure Version where
  name : ByteArray
  number : Int
  stage : Int
  share : Int
  deriving DecidableEq

structure Score where
  value : Int
  version : Int
  index : Int
  deriving DecidableEq

structure A2I where
  e0 : Int
  e1 : Int
  deriving DecidableEq

def eqNode (x y : Node) : Bool := ((x.feature == y.feature) && ((x.cut == y.cut) && ((x.left == y.left) && ((x.right == y.right) && ((x.less == y.less) && ((x.value == y.value) && true))))))

def cut_Cell (N : Nat) (v_n1 : Int) : Option Bool :=
  some ((decide (v_n1 ≥ (-1000000))) && (decide (v_n1 ≤ 1000000)))

def row_Check_j1 (N : Nat)  : Option (Option Int) :=
  some none

def row_Check_l1 (N : Nat) (v_row1 : List Int) : Nat → Int → Option (Option Int)
  | 0, _ => none
  | n_1 + 1, v_t15 =>
    if (decide (v_t15 < (v_row1.length : Int))) then (
      (ix v_row1 v_t15).bind fun v_y16 =>
      (gd (v_y16 != (-1125899906842624)) (cut_Cell N v_y16) false).bind fun v_r17 =>
      if ((v_y16 != (-1125899906842624)) && (!v_r17)) then (
        some (some 1))
      else (
        (row_Check_l1 N v_row1 n_1) (w64 (v_t15 + 1))))
    else (
      row_Check_j1 N)

def row_Check (N : Nat) (v_row1 : List Int) : Option (Option Int) :=
  if (decide ((v_row1.length : Int) > 8)) then (
    some (some 4))
  else (
    row_Check_l1 N v_row1 N 0)

def slices_Index_j1 (N : Nat)  : Option Int :=
  some (-1)

def slices_Index_l1 (N : Nat) (v_s1 : List Int) (v_v2 : Int) : Nat → Int → Option Int
  | 0, _ => none
  | n_1 + 1, v_t11 =>
    if (decide (v_t11 < (v_s1.length : Int))) then (
      (ix v_s1 v_t11).bind fun v_y12 =>
      if (v_v2 == v_y12) then (
        some v_t11)
      else (
        (slices_Index_l1 N v_s1 v_v2 n_1) (w64 (v_t11 + 1))))
    else (
      slices_Index_j1 N)

def slices_Index (N : Nat) (v_s1 : List Int) (v_v2 : Int) : Option Int :=
  slices_Index_l1 N v_s1 v_v2 N 0

def slices_Contains (N : Nat) (v_s1 : List Int) (v_v2 : Int) : Option Bool :=
  (slices_Index N v_s1 v_v2).bind fun v_r3 =>
  some (decide (v_r3 ≥ 0))

def grow_Check_j1 (N : Nat)  : Option (Int × (Option Int)) :=
  some (0, none)

def grow_Check_l1 (N : Nat) (v_a1 : List Sample) (v_a2 : Int) : Nat → Int → Option (Int × (Option Int))
  | 0, _ => none
  | n_1 + 1, v_t21 =>
    if (decide (v_t21 < (v_a1.length : Int))) then (
      (ix v_a1 v_t21).bind fun v_y22 =>
      (row_Check N v_y22.row).bind fun v_r23 =>
      if v_r23.isSome then (
        some (v_t21, v_r23))
      else (
        if ((decide (v_y22.target < (-1000))) || (decide (v_y22.target > 1000))) then (
          some (v_t21, (some 1)))
        else (
          if ((v_y22.row.length : Int) != v_a2) then (
            some (v_t21, (some 3)))
          else (
            (slices_Contains N v_y22.row (-1125899906842624)).bind fun v_r24 =>
            if v_r24 then (
              some (v_t21, (some 5)))
            else (
              (grow_Check_l1 N v_a1 v_a2 n_1) (w64 (v_t21 + 1)))))))
    else (
      grow_Check_j1 N)

def grow_Check (N : Nat) (v_a1 : List Sample) (v_a2 : Int) : Option (Int × (Option Int)) :=
  if (decide ((v_a1.length : Int) > 60)) then (
    some (0, (some 4)))
  else (
    if ((v_a1.length : Int) == 0) then (
      some (0, (some 5)))
    else (
      if ((decide (v_a2 < 0)) || (decide (v_a2 > 8))) then (
        some (0, (some 1)))
      else (
        grow_Check_l1 N v_a1 v_a2 N 0)))

def grow_Least (N : Nat) (v_n1 : Int) : Option Bool :=
  some ((decide (v_n1 ≥ 1)) && (decide (v_n1 ≤ 60)))

def grow_sum_j1 (N : Nat) (v_n9 : Int) : Option Int :=
  some v_n9

def grow_sum_l1 (N : Nat) (v_l1 : List Sample) : Nat → Int → Int → Option Int
  | 0, _, _ => none
  | n_1 + 1, v_n14, v_t15 =>
    if (decide (v_t15 < (v_l1.length : Int))) then (
      (ix v_l1 v_t15).bind fun v_y16 =>
      (grow_sum_l1 N v_l1 n_1) (w64 (v_n14 + v_y16.target)) (w64 (v_t15 + 1)))
    else (
      grow_sum_j1 N v_n14)

def grow_sum (N : Nat) (v_l1 : List Sample) : Option Int :=
  grow_sum_l1 N v_l1 N 0 0

def grow_part_j1 (N : Nat) (v_below22 : List Sample) (v_rest23 : List Sample) : Option ((List Sample) × (List Sample)) :=
  some (v_below22, v_rest23)

def grow_part_l1 (N : Nat) (v_l1 : List Sample) (v_feature2 : Int) (v_cut3 : Int) : Nat → (List Sample) → (List Sample) → Int → Option ((List Sample) × (List Sample))
  | 0, _, _, _ => none
  | n_1 + 1, v_below35, v_rest36, v_t37 =>
    if (decide (v_t37 < (v_l1.length : Int))) then (
      (ix v_l1 v_t37).bind fun v_y38 =>
      (ix v_y38.row v_feature2).bind fun v_y39 =>
      if (decide (v_y39 < v_cut3)) then (
        (app v_below35 [v_y38]).bind fun v_t40 =>
        (grow_part_l1 N v_l1 v_feature2 v_cut3 n_1) v_t40 v_rest36 (w64 (v_t37 + 1)))
      else (
        (app v_rest36 [v_y38]).bind fun v_t41 =>
        (grow_part_l1 N v_l1 v_feature2 v_cut3 n_1) v_below35 v_t41 (w64 (v_t37 + 1))))
    else (
      grow_part_j1 N v_below35 v_rest36)

def grow_part (N : Nat) (v_l1 : List Sample) (v_feature2 : Int) (v_cut3 : Int) : Option ((List Sample) × (List Sample)) :=
  grow_part_l1 N v_l1 v_feature2 v_cut3 N [] [] 0

def grow_best_j1 (N : Nat) (v_t430 : Int) (v_t431 : Int) : Option (Int × Int) :=
  some (v_t430, v_t431)

def grow_best_j2 (N : Nat) (kn_grow_best_l1 : Int → Int → Int → Int → Int → Option (Int × Int)) (v_t719 : Int) (v_t787 : Int) (v_t788 : Int) (v_t789 : Int) (v_t790 : Int) : Option (Int × Int) :=
  kn_grow_best_l1 v_t787 v_t788 v_t789 v_t790 (w64 (v_t719 + 1))

def grow_best_l2 (N : Nat) (v_t807 : List Int) (v_a1 : List Sample) (v_t719 : Int) (v_a3 : Int) (kn_grow_best_l1 : Int → Int → Int → Int → Int → Option (Int × Int)) : Nat → Int → Int → Int → Int → Int → Option (Int × Int)
  | 0, _, _, _, _, _ => none
  | n_2 + 1, v_t831, v_t832, v_t833, v_t834, v_t835 =>
    if (decide (v_t835 < (v_t807.length : Int))) then (
      (ix v_t807 v_t835).bind fun v_y836 =>
      (grow_part N v_a1 v_t719 v_y836).bind fun v_r837 =>
      if ((decide ((v_r837.1.length : Int) < v_a3)) || (decide ((v_r837.2.length : Int) < v_a3))) then (
        (grow_best_l2 N v_t807 v_a1 v_t719 v_a3 kn_grow_best_l1 n_2) v_t831 v_t832 v_t833 v_t834 (w64 (v_t835 + 1)))
      else (
        (grow_sum N v_r837.1).bind fun v_r838 =>
        (grow_sum N v_r837.1).bind fun v_r839 =>
        (some (w64 ((w64 (v_r838 * v_r839)) * (v_r837.2.length : Int)))).bind fun v_t840 =>
        (grow_sum N v_r837.2).bind fun v_r841 =>
        (grow_sum N v_r837.2).bind fun v_r842 =>
        (some (w64 ((w64 (v_r841 * v_r842)) * (v_r837.1.length : Int)))).bind fun v_t843 =>
        (some (w64 ((v_r837.1.length : Int) * (v_r837.2.length : Int)))).bind fun v_t844 =>
        if (decide ((w64 ((w64 (v_t840 + v_t843)) * v_t834)) > (w64 (v_t833 * v_t844)))) then (
          (grow_best_l2 N v_t807 v_a1 v_t719 v_a3 kn_grow_best_l1 n_2) v_t719 v_y836 (w64 (v_t840 + v_t843)) v_t844 (w64 (v_t835 + 1)))
        else (
          (grow_best_l2 N v_t807 v_a1 v_t719 v_a3 kn_grow_best_l1 n_2) v_t831 v_t832 v_t833 v_t834 (w64 (v_t835 + 1)))))
    else (
      grow_best_j2 N kn_grow_best_l1 v_t719 v_t831 v_t832 v_t833 v_t834)

def grow_best_j3 (N : Nat) (v_a1 : List Sample) (v_t719 : Int) (v_a3 : Int) (kn_grow_best_l1 : Int → Int → Int → Int → Int → Option (Int × Int)) (v_t715 : Int) (v_t716 : Int) (v_t717 : Int) (v_t718 : Int) (v_t804 : List Int) : Option (Int × Int) :=
  (slices_Sort N v_t804).bind fun v_r805 =>
  (slices_Compact N v_r805).bind fun v_r806 =>
  (sub v_r806 (min 1 (v_r805.length : Int)) (v_r806.length : Int)).bind fun v_t807 =>
  grow_best_l2 N v_t807 v_a1 v_t719 v_a3 kn_grow_best_l1 N v_t715 v_t716 v_t717 v_t718 0

def grow_best_l3 (N : Nat) (v_a1 : List Sample) (v_t719 : Int) (v_a3 : Int) (kn_grow_best_l1 : Int → Int → Int → Int → Int → Option (Int × Int)) (v_t715 : Int) (v_t716 : Int) (v_t717 : Int) (v_t718 : Int) : Nat → (List Int) → Int → Option (Int × Int)
  | 0, _, _ => none
  | n_3 + 1, v_t853, v_t854 =>
    if (decide (v_t854 < (v_a1.length : Int))) then (
      (ix v_a1 v_t854).bind fun v_y855 =>
      (ix v_y855.row v_t719).bind fun v_y856 =>
      (app v_t853 [v_y856]).bind fun v_t857 =>
      (grow_best_l3 N v_a1 v_t719 v_a3 kn_grow_best_l1 v_t715 v_t716 v_t717 v_t718 n_3) v_t857 (w64 (v_t854 + 1)))
    else (
      grow_best_j3 N v_a1 v_t719 v_a3 kn_grow_best_l1 v_t715 v_t716 v_t717 v_t718 v_t853)

def grow_best_l1 (N : Nat) (v_a2 : Int) (v_a1 : List Sample) (v_a3 : Int) : Nat → Int → Int → Int → Int → Int → Option (Int × Int)
  | 0, _, _, _, _, _ => none
  | n_1 + 1, v_t715, v_t716, v_t717, v_t718, v_t719 =>
    if (decide (v_t719 < v_a2)) then (
      grow_best_l3 N v_a1 v_t719 v_a3 (grow_best_l1 N v_a2 v_a1 v_a3 n_1) v_t715 v_t716 v_t717 v_t718 N [] 0)
    else (
      grow_best_j1 N v_t715 v_t716)

def grow_best (N : Nat) (v_a1 : List Sample) (v_a2 : Int) (v_a3 : Int) : Option (Int × Int) :=
  (grow_sum N v_a1).bind fun v_r4 =>
  (grow_sum N v_a1).bind fun v_r5 =>
  grow_best_l1 N v_a2 v_a1 v_a3 N (-1) 0 (w64 (v_r4 * v_r5)) (v_a1.length : Int) 0

def fixed_Floor (N : Nat) (v_a1 : Int) (v_b2 : Int) : Option Int :=
  (nz v_b2).bind fun v_q3 =>
  (nz v_b2).bind fun v_q4 =>
  if (decide ((Int.tmod v_a1 v_b2) < 0)) then (
    some (w64 ((w64 (Int.tdiv v_a1 v_b2)) - 1)))
  else (
    some (w64 (Int.tdiv v_a1 v_b2)))

def grow_Grow_j1 (N : Nat) (v_a2 : List Sample) (v_a1 : List Node) (kr_grow_Grow : (List Node) → (List Sample) → Int → Int → Int → Option (List Node)) (v_a3 : Int) (v_a4 : Int) (v_a5 : Int) (v_t7 : Int) (v_t8 : Int) : Option (List Node) :=
  if (decide (v_t7 < 0)) then (
    (grow_sum N v_a2).bind fun v_r9 =>
    (fixed_Floor N v_r9 (v_a2.length : Int)).bind fun v_r10 =>
    (app v_a1 [(Node.mk (-1) 0 0 0 false v_r10)]).bind fun v_t11 =>
    some v_t11)
  else (
    (grow_part N v_a2 v_t7 v_t8).bind fun v_r12 =>
    (app v_a1 [(Node.mk v_t7 v_t8 (w64 ((v_a1.length : Int) + 1)) 0 (decide ((v_r12.1.length : Int) > (v_r12.2.length : Int))) 0)]).bind fun v_t13 =>
    (kr_grow_Grow v_t13 v_r12.1 v_a3 (w64 (v_a4 - 1)) v_a5).bind fun v_r14 =>
    (ix v_r14 (v_a1.length : Int)).bind fun v_y15 =>
    (kr_grow_Grow (v_r14.set (v_a1.length : Int).toNat ({ v_y15 with right := (v_r14.length : Int) })) v_r12.2 v_a3 (w64 (v_a4 - 1)) v_a5).bind fun v_r16 =>
    some v_r16)

def grow_Grow : Nat → (List Node) → (List Sample) → Int → Int → Int → Option (List Node)
  | 0, _, _, _, _, _ => none
  | N + 1, v_a1, v_a2, v_a3, v_a4, v_a5 =>
    if (decide (v_a4 > 0)) then (
      (grow_best N v_a2 v_a3 v_a5).bind fun v_r17 =>
      grow_Grow_j1 N v_a2 v_a1 (grow_Grow N) v_a3 v_a4 v_a5 v_r17.1 v_r17.2)
    else (
      grow_Grow_j1 N v_a2 v_a1 (grow_Grow N) v_a3 v_a4 v_a5 (-1) 0)

def grow_Fit (N : Nat) (v_l1 : List Sample) (v_features2 : Int) (v_depth3 : Int) (v_least4 : Int) : Option ((List Node) × (Option Int)) :=
  (grow_Check N v_l1 v_features2).bind fun v_r5 =>
  if v_r5.2.isSome then (
    some ([], v_r5.2))
  else (
    (gd (!((decide (v_depth3 < 0)) || (decide (v_depth3 > 5)))) (grow_Least N v_least4) false).bind fun v_r6 =>
    if (((decide (v_depth3 < 0)) || (decide (v_depth3 > 5))) || (!v_r6)) then (
      some ([], (some 1)))
    else (
      (grow_Grow N [] v_l1 v_features2 v_depth3 v_least4).bind fun v_r7 =>
      some (v_r7, none)))

def orchlaw4_GrowShifts_j2 (N : Nat)  : Option Bool :=
  some true

def orchlaw4_GrowShifts_j3 (N : Nat) (v_r23 : (List Node) × (Option Int)) (v_t43 : Int) (v_y44 : Node) (kn_orchlaw4_GrowShifts_l1 : Int → Option Bool) (v_t45 : Int) : Option Bool :=
  (ix v_r23.1 v_t43).bind fun v_y46 =>
  if (!(eqNode v_y46 (Node.mk v_y44.feature v_y44.cut v_y44.left v_y44.right v_y44.less v_t45))) then (
    some false)
  else (
    kn_orchlaw4_GrowShifts_l1 (w64 (v_t43 + 1)))

def orchlaw4_GrowShifts_l1 (N : Nat) (v_r23 : (List Node) × (Option Int)) (v_r8 : (List Node) × (Option Int)) (v_a5 : Int) : Nat → Int → Option Bool
  | 0, _ => none
  | n_1 + 1, v_t43 =>
    if (decide (v_t43 < (v_r23.1.length : Int))) then (
      (ix v_r8.1 v_t43).bind fun v_y44 =>
      if (v_y44.feature == (-1)) then (
        orchlaw4_GrowShifts_j3 N v_r23 v_t43 v_y44 (orchlaw4_GrowShifts_l1 N v_r23 v_r8 v_a5 n_1) (w64 (v_y44.value + v_a5)))
      else (
        orchlaw4_GrowShifts_j3 N v_r23 v_t43 v_y44 (orchlaw4_GrowShifts_l1 N v_r23 v_r8 v_a5 n_1) v_y44.value))
    else (
      orchlaw4_GrowShifts_j2 N)

def orchlaw4_GrowShifts_j1 (N : Nat) (v_a2 : Int) (v_a3 : Int) (v_a4 : Int) (v_r8 : (List Node) × (Option Int)) (v_a5 : Int) (v_t22 : List Sample) : Option Bool :=
  (grow_Fit N v_t22 v_a2 v_a3 v_a4).bind fun v_r23 =>
  if v_r23.2.isSome then (
    (grow_Check N v_t22 v_a2).bind fun v_r24 =>
    some v_r24.2.isSome)
  else (
    if ((v_r23.1.length : Int) != (v_r8.1.length : Int)) then (
      some false)
    else (
      orchlaw4_GrowShifts_l1 N v_r23 v_r8 v_a5 N 0))

def orchlaw4_GrowShifts_l2 (N : Nat) (v_a1 : List Sample) (v_a5 : Int) (v_a2 : Int) (v_a3 : Int) (v_a4 : Int) (v_r8 : (List Node) × (Option Int)) : Nat → (List Sample) → Int → Option Bool
  | 0, _, _ => none
  | n_2 + 1, v_t55, v_t56 =>
    if (decide (v_t56 < (v_a1.length : Int))) then (
      (ix v_a1 v_t56).bind fun v_y57 =>
      (ix v_a1 v_t56).bind fun v_y58 =>
      (app v_t55 [(Sample.mk v_y57.row (w64 (v_y58.target + v_a5)))]).bind fun v_t59 =>
      (orchlaw4_GrowShifts_l2 N v_a1 v_a5 v_a2 v_a3 v_a4 v_r8 n_2) v_t59 (w64 (v_t56 + 1)))
    else (
      orchlaw4_GrowShifts_j1 N v_a2 v_a3 v_a4 v_r8 v_a5 v_t55)

def orchlaw4_GrowShifts (N : Nat) (v_a1 : List Sample) (v_a2 : Int) (v_a3 : Int) (v_a4 : Int) (v_a5 : Int) : Option Bool :=
  (grow_Fit N [(Sample.mk [1] 5), (Sample.mk [2] 9)] 1 1 1).bind fun v_r6 =>
  (gd (!(v_r6.2.isSome || ((v_r6.1.length : Int) != 3))) (ix v_r6.1 1) (Node.mk 0 0 0 0 false 0)).bind fun v_y7 =>
  if ((v_r6.2.isSome || ((v_r6.1.length : Int) != 3)) || (v_y7.value != 5)) then (
    some false)
  else (
    (grow_Fit N v_a1 v_a2 v_a3 v_a4).bind fun v_r8 =>
    if ((v_r8.2.isSome || (decide (v_a5 < (-2000)))) || (decide (v_a5 > 2000))) then (
      some true)
    else (
      orchlaw4_GrowShifts_l2 N v_a1 v_a5 v_a2 v_a3 v_a4 v_r8 N [] 0))

def tree_node_1 (N : Nat) (v_k1 : Int) (v_a2 : Int) (v_a3 : List Node) : Option Bool :=
  some ((decide (v_k1 > v_a2)) && (decide (v_k1 < (v_a3.length : Int))))

def tree_node (N : Nat) (v_a1 : List Node) (v_a2 : Int) (v_a3 : Int) : Option (Option Int) :=
  (ix v_a1 v_a2).bind fun v_y4 =>
  if (v_y4.feature == (-1)) then (
    (cut_Cell N v_y4.value).bind fun v_r5 =>
    if (!v_r5) then (
      some (some 1))
    else (
      if ((((v_y4.cut != 0) || (v_y4.left != 0)) || (v_y4.right != 0)) || v_y4.less) then (
        some (some 3))
      else (
        some none)))
  else (
    (gd (!((decide (v_y4.feature < 0)) || (decide (v_y4.feature ≥ v_a3)))) (cut_Cell N v_y4.cut) false).bind fun v_r6 =>
    (gd (!(((decide (v_y4.feature < 0)) || (decide (v_y4.feature ≥ v_a3))) || (!v_r6))) (tree_node_1 N v_y4.left v_a2 v_a1) false).bind fun v_r7 =>
    (gd (!((((decide (v_y4.feature < 0)) || (decide (v_y4.feature ≥ v_a3))) || (!v_r6)) || (!v_r7))) (tree_node_1 N v_y4.right v_a2 v_a1) false).bind fun v_r8 =>
    if (((((decide (v_y4.feature < 0)) || (decide (v_y4.feature ≥ v_a3))) || (!v_r6)) || (!v_r7)) || (!v_r8)) then (
      some (some 1))
    else (
      if ((v_y4.value != 0) || (v_y4.left == v_y4.right)) then (
        some (some 3))
      else (
        some none)))

def tree_depth_j1 (N : Nat) (v_d19 : List Int) : Option Int :=
  (ix v_d19 0).bind fun v_y20 =>
  some v_y20

def tree_depth_l1 (N : Nat) (v_t1 : List Node) : Nat → (List Int) → Int → Option Int
  | 0, _, _ => none
  | n_1 + 1, v_d31, v_i32 =>
    if (decide (v_i32 ≥ 0)) then (
      (ix v_t1 v_i32).bind fun v_y33 =>
      if (v_y33.feature != (-1)) then (
        (ix v_d31 v_y33.left).bind fun v_y34 =>
        (ix v_d31 v_y33.right).bind fun v_y35 =>
        (ix v_d31 v_i32).bind fun v_y36 =>
        (tree_depth_l1 N v_t1 n_1) (v_d31.set v_i32.toNat (w64 (1 + (max v_y34 v_y35)))) (w64 (v_i32 - 1)))
      else (
        (tree_depth_l1 N v_t1 n_1) v_d31 (w64 (v_i32 - 1))))
    else (
      tree_depth_j1 N v_d31)

def tree_depth (N : Nat) (v_t1 : List Node) : Option Int :=
  (mk (v_t1.length : Int) (0 : Int)).bind fun v_t2 =>
  tree_depth_l1 N v_t1 N v_t2 (w64 ((v_t1.length : Int) - 1))

def tree_Check_j2 (N : Nat) (v_a1 : List Node) : Option (Int × (Option Int)) :=
  (tree_depth N v_a1).bind fun v_r32 =>
  if (decide (v_r32 > 10)) then (
    some (0, (some 4)))
  else (
    some (0, none))

def tree_Check_l1 (N : Nat) (v_t26 : List Int) (v_a1 : List Node) : Nat → Int → Option (Int × (Option Int))
  | 0, _ => none
  | n_1 + 1, v_t36 =>
    if (decide (v_t36 < (v_t26.length : Int))) then (
      (ix v_t26 v_t36).bind fun v_y37 =>
      if ((decide (v_t36 > 0)) && (v_y37 != 1)) then (
        some (v_t36, (some 7)))
      else (
        (tree_Check_l1 N v_t26 v_a1 n_1) (w64 (v_t36 + 1))))
    else (
      tree_Check_j2 N v_a1)

def tree_Check_j1 (N : Nat) (v_a1 : List Node) (v_t26 : List Int) : Option (Int × (Option Int)) :=
  tree_Check_l1 N v_t26 v_a1 N 0

def tree_Check_l2 (N : Nat) (v_a1 : List Node) (v_a2 : Int) : Nat → (List Int) → Int → Option (Int × (Option Int))
  | 0, _, _ => none
  | n_2 + 1, v_t52, v_t53 =>
    if (decide (v_t53 < (v_a1.length : Int))) then (
      (ix v_a1 v_t53).bind fun v_y54 =>
      (tree_node N v_a1 v_t53 v_a2).bind fun v_r55 =>
      if v_r55.isSome then (
        some (v_t53, v_r55))
      else (
        if (v_y54.feature != (-1)) then (
          (ix v_t52 v_y54.left).bind fun v_y56 =>
          (ix v_t52 v_y54.left).bind fun v_y57 =>
          (ix (v_t52.set v_y54.left.toNat (w64 (v_y56 + 1))) v_y54.right).bind fun v_y58 =>
          (ix (v_t52.set v_y54.left.toNat (w64 (v_y56 + 1))) v_y54.right).bind fun v_y59 =>
          (tree_Check_l2 N v_a1 v_a2 n_2) ((v_t52.set v_y54.left.toNat (w64 (v_y56 + 1))).set v_y54.right.toNat (w64 (v_y58 + 1))) (w64 (v_t53 + 1)))
        else (
          (tree_Check_l2 N v_a1 v_a2 n_2) v_t52 (w64 (v_t53 + 1)))))
    else (
      tree_Check_j1 N v_a1 v_t52)

def tree_Check (N : Nat) (v_a1 : List Node) (v_a2 : Int) : Option (Int × (Option Int)) :=
  if (decide ((v_a1.length : Int) > 63)) then (
    some (0, (some 4)))
  else (
    if ((v_a1.length : Int) == 0) then (
      some (0, (some 5)))
    else (
      if ((decide (v_a2 < 0)) || (decide (v_a2 > 8))) then (
        some (0, (some 1)))
      else (
        (mk (v_a1.length : Int) (0 : Int)).bind fun v_t3 =>
        tree_Check_l2 N v_a1 v_a2 N v_t3 0)))

def tree_Depth (N : Nat) (v_t1 : List Node) : Option (Int × (Option Int)) :=
  (tree_Check N v_t1 8).bind fun v_r2 =>
  if v_r2.2.isSome then (
    some (0, v_r2.2))
  else (
    (tree_depth N v_t1).bind fun v_r3 =>
    some (v_r3, none))

def tree_Ready (N : Nat) (v_t1 : List Node) (v_r2 : List Int) : Option (Option Int) :=
  (row_Check N v_r2).bind fun v_r3 =>
  if v_r3.isSome then (
    some v_r3)
  else (
    (tree_Check N v_t1 (v_r2.length : Int)).bind fun v_r4 =>
    some v_r4.2)

def tree_Next (N : Nat) (v_n1 : Node) (v_c2 : Int) : Option Int :=
  if (((v_c2 == (-1125899906842624)) && v_n1.less) || ((v_c2 != (-1125899906842624)) && (decide (v_c2 < v_n1.cut)))) then (
    some v_n1.left)
  else (
    some v_n1.right)

def tree_Walk_j1 (N : Nat) (v_i20 : Int) : Option Int :=
  some v_i20

def tree_Walk_l1 (N : Nat) (v_t1 : List Node) (v_row2 : List Int) : Nat → Int → Option Int
  | 0, _ => none
  | n_1 + 1, v_i32 =>
    (ix v_t1 v_i32).bind fun v_y33 =>
    if (v_y33.feature != (-1)) then (
      (ix v_t1 v_i32).bind fun v_y34 =>
      (ix v_t1 v_i32).bind fun v_y35 =>
      (ix v_row2 v_y35.feature).bind fun v_y36 =>
      (tree_Next N v_y34 v_y36).bind fun v_r37 =>
      (tree_Walk_l1 N v_t1 v_row2 n_1) v_r37)
    else (
      tree_Walk_j1 N v_i32)

def tree_Walk (N : Nat) (v_t1 : List Node) (v_row2 : List Int) : Option Int :=
  tree_Walk_l1 N v_t1 v_row2 N 0

def tree_Leaf (N : Nat) (v_t1 : List Node) (v_r2 : List Int) : Option (Int × (Option Int)) :=
  (tree_Ready N v_t1 v_r2).bind fun v_r3 =>
  if v_r3.isSome then (
    some (0, v_r3))
  else (
    (tree_Walk N v_t1 v_r2).bind fun v_r4 =>
    some (v_r4, none))

def grow_Ready (N : Nat) (v_t1 : List Node) (v_l2 : List Sample) : Option (Option Int) :=
  if ((v_l2.length : Int) == 0) then (
    some (some 5))
  else (
    (ix v_l2 0).bind fun v_y3 =>
    (tree_Check N v_t1 (v_y3.row.length : Int)).bind fun v_r4 =>
    if v_r4.2.isSome then (
      some v_r4.2)
    else (
      (grow_Check N v_l2 (v_y3.row.length : Int)).bind fun v_r5 =>
      some v_r5.2))

def grow_Wrong_j1 (N : Nat) (v_n20 : Int) : Option (Int × (Option Int)) :=
  some (v_n20, none)

def grow_Wrong_l1 (N : Nat) (v_l2 : List Sample) (v_t1 : List Node) : Nat → Int → Int → Option (Int × (Option Int))
  | 0, _, _ => none
  | n_1 + 1, v_n31, v_t32 =>
    if (decide (v_t32 < (v_l2.length : Int))) then (
      (ix v_l2 v_t32).bind fun v_y33 =>
      (tree_Walk N v_t1 v_y33.row).bind fun v_r34 =>
      (ix v_t1 v_r34).bind fun v_y35 =>
      (some (w64 ((w64 (v_y33.target - v_y35.value)) * (w64 (v_y33.target - v_y35.value))))).bind fun v_t36 =>
      (grow_Wrong_l1 N v_l2 v_t1 n_1) (w64 (v_n31 + v_t36)) (w64 (v_t32 + 1)))
    else (
      grow_Wrong_j1 N v_n31)

def grow_Wrong (N : Nat) (v_t1 : List Node) (v_l2 : List Sample) : Option (Int × (Option Int)) :=
  (grow_Ready N v_t1 v_l2).bind fun v_r3 =>
  if v_r3.isSome then (
    some (0, v_r3))
  else (
    grow_Wrong_l1 N v_l2 v_t1 N 0 0)

def grow_Split (N : Nat) (v_l1 : List Sample) (v_features2 : Int) (v_least3 : Int) : Option (Int × Int × (Option Int)) :=
  (grow_Check N v_l1 v_features2).bind fun v_r4 =>
  if v_r4.2.isSome then (
    some (0, 0, v_r4.2))
  else (
    (grow_Least N v_least3).bind fun v_r5 =>
    if (!v_r5) then (
      some (0, 0, (some 1)))
    else (
      (grow_best N v_l1 v_features2 v_least3).bind fun v_r6 =>
      if (decide (v_r6.1 < 0)) then (
        some (0, 0, (some 5)))
      else (
        some (v_r6.1, v_r6.2, none))))

def orchlaw2_right_j1 (N : Nat) (v_a4 : Int) (v_t30 : Int) (v_t31 : Int) (v_t32 : Int) (v_t33 : Int) : Option A2I :=
  if (v_a4 == 0) then (
    (some (w64 ((w64 (v_t30 + v_t31)) * (w64 (v_t30 + v_t31))))).bind fun v_t34 =>
    some (A2I.mk v_t34 (w64 (v_t32 + v_t33))))
  else (
    if ((decide (v_t32 < v_a4)) || (decide (v_t33 < v_a4))) then (
      some (A2I.mk 0 0))
    else (
      (some (w64 ((w64 ((w64 (v_t30 * v_t30)) * v_t33)) + (w64 ((w64 (v_t31 * v_t31)) * v_t32))))).bind fun v_t35 =>
      some (A2I.mk v_t35 (w64 (v_t32 * v_t33)))))

def orchlaw2_right_l1 (N : Nat) (v_a1 : List Sample) (v_a2 : Int) (v_a3 : Int) (v_a4 : Int) : Nat → Int → Int → Int → Int → Int → Option A2I
  | 0, _, _, _, _, _ => none
  | n_1 + 1, v_t51, v_t52, v_t53, v_t54, v_t55 =>
    if (decide (v_t55 < (v_a1.length : Int))) then (
      (ix v_a1 v_t55).bind fun v_y56 =>
      (gd (decide ((v_y56.row.length : Int) > v_a2)) (ix v_a1 v_t55) (Sample.mk [] 0)).bind fun v_y57 =>
      (gd (decide ((v_y56.row.length : Int) > v_a2)) (ix v_y57.row v_a2) 0).bind fun v_y58 =>
      if ((decide ((v_y56.row.length : Int) > v_a2)) && (decide (v_y58 < v_a3))) then (
        (ix v_a1 v_t55).bind fun v_y59 =>
        (orchlaw2_right_l1 N v_a1 v_a2 v_a3 v_a4 n_1) (w64 (v_t51 + v_y59.target)) v_t52 (w64 (v_t53 + 1)) v_t54 (w64 (v_t55 + 1)))
      else (
        (ix v_a1 v_t55).bind fun v_y60 =>
        (orchlaw2_right_l1 N v_a1 v_a2 v_a3 v_a4 n_1) v_t51 (w64 (v_t52 + v_y60.target)) v_t53 (w64 (v_t54 + 1)) (w64 (v_t55 + 1))))
    else (
      orchlaw2_right_j1 N v_a4 v_t51 v_t52 v_t53 v_t54)

def orchlaw2_right (N : Nat) (v_a1 : List Sample) (v_a2 : Int) (v_a3 : Int) (v_a4 : Int) : Option A2I :=
  orchlaw2_right_l1 N v_a1 v_a2 v_a3 v_a4 N 0 0 0 0 0

def orchlaw2_GrowLearns_j3 (N : Nat) (v_a1 : List Sample) (v_a2 : Int) (v_a4 : Int) (v_a5 : Int) (v_a6 : Int) : Option Bool :=
  (grow_Split N v_a1 v_a2 v_a4).bind fun v_r62 =>
  if ((decide (v_a5 < 0)) || (decide (v_a5 ≥ v_a2))) then (
    some true)
  else (
    (orchlaw2_right N v_a1 v_a5 v_a6 v_a4).bind fun v_r63 =>
    if v_r62.2.2.isSome then (
      (orchlaw2_right N v_a1 0 (-2000000) 0).bind fun v_r64 =>
      some ((v_r63.e1 == 0) || (decide ((w64 (v_r63.e0 * v_r64.e1)) ≤ (w64 (v_r64.e0 * v_r63.e1))))))
    else (
      (orchlaw2_right N v_a1 v_r62.1 v_r62.2.1 v_a4).bind fun v_r65 =>
      some ((decide (v_r65.e1 > 0)) && (decide ((w64 (v_r63.e0 * v_r65.e1)) ≤ (w64 (v_r65.e0 * v_r63.e1)))))))

def orchlaw2_GrowLearns_j2 (N : Nat) (v_r10 : (List Node) × (Option Int)) (v_a1 : List Sample) (v_a3 : Int) (v_a2 : Int) (v_a4 : Int) (v_a5 : Int) (v_a6 : Int) : Option Bool :=
  (grow_Wrong N v_r10.1 v_a1).bind fun v_r59 =>
  if v_r59.2.isSome then (
    some false)
  else (
    if (decide (v_a3 > 0)) then (
      (grow_Fit N v_a1 v_a2 (w64 (v_a3 - 1)) v_a4).bind fun v_r66 =>
      if v_r66.2.isSome then (
        some false)
      else (
        (grow_Wrong N v_r66.1 v_a1).bind fun v_r67 =>
        if (v_r67.2.isSome || (decide (v_r59.1 > (w64 (v_r67.1 + (v_a1.length : Int)))))) then (
          some false)
        else (
          orchlaw2_GrowLearns_j3 N v_a1 v_a2 v_a4 v_a5 v_a6)))
    else (
      orchlaw2_GrowLearns_j3 N v_a1 v_a2 v_a4 v_a5 v_a6))

def orchlaw2_GrowLearns_l1 (N : Nat) (v_r10 : (List Node) × (Option Int)) (v_t40 : List Int) (v_a4 : Int) (v_t41 : List Int) (v_a1 : List Sample) (v_a3 : Int) (v_a2 : Int) (v_a5 : Int) (v_a6 : Int) : Nat → Int → Option Bool
  | 0, _ => none
  | n_1 + 1, v_t79 =>
    if (decide (v_t79 < (v_r10.1.length : Int))) then (
      (ix v_r10.1 v_t79).bind fun v_y80 =>
      if (v_y80.feature != (-1)) then (
        (orchlaw2_GrowLearns_l1 N v_r10 v_t40 v_a4 v_t41 v_a1 v_a3 v_a2 v_a5 v_a6 n_1) (w64 (v_t79 + 1)))
      else (
        (ix v_t40 v_t79).bind fun v_y81 =>
        (ix v_r10.1 v_t79).bind fun v_y82 =>
        (gd (!((v_y81 == 0) || ((decide ((v_r10.1.length : Int) > 1)) && (decide (v_y81 < v_a4))))) (ix v_t41 v_t79) 0).bind fun v_y83 =>
        (gd (!(((v_y81 == 0) || ((decide ((v_r10.1.length : Int) > 1)) && (decide (v_y81 < v_a4)))) || (decide ((w64 (v_y82.value * v_y81)) > v_y83)))) (ix v_t41 v_t79) 0).bind fun v_y84 =>
        if ((((v_y81 == 0) || ((decide ((v_r10.1.length : Int) > 1)) && (decide (v_y81 < v_a4)))) || (decide ((w64 (v_y82.value * v_y81)) > v_y83))) || (decide ((w64 ((w64 (v_y82.value + 1)) * v_y81)) ≤ v_y84))) then (
          some false)
        else (
          (orchlaw2_GrowLearns_l1 N v_r10 v_t40 v_a4 v_t41 v_a1 v_a3 v_a2 v_a5 v_a6 n_1) (w64 (v_t79 + 1)))))
    else (
      orchlaw2_GrowLearns_j2 N v_r10 v_a1 v_a3 v_a2 v_a4 v_a5 v_a6)

def orchlaw2_GrowLearns_j1 (N : Nat) (v_r10 : (List Node) × (Option Int)) (v_a4 : Int) (v_a1 : List Sample) (v_a3 : Int) (v_a2 : Int) (v_a5 : Int) (v_a6 : Int) (v_t40 : List Int) (v_t41 : List Int) : Option Bool :=
  orchlaw2_GrowLearns_l1 N v_r10 v_t40 v_a4 v_t41 v_a1 v_a3 v_a2 v_a5 v_a6 N 0

def orchlaw2_GrowLearns_l2 (N : Nat) (v_a1 : List Sample) (v_r10 : (List Node) × (Option Int)) (v_a4 : Int) (v_a3 : Int) (v_a2 : Int) (v_a5 : Int) (v_a6 : Int) : Nat → (List Int) → (List Int) → Int → Option Bool
  | 0, _, _, _ => none
  | n_2 + 1, v_t102, v_t103, v_t104 =>
    if (decide (v_t104 < (v_a1.length : Int))) then (
      (ix v_a1 v_t104).bind fun v_y105 =>
      (tree_Leaf N v_r10.1 v_y105.row).bind fun v_r106 =>
      if v_r106.2.isSome then (
        some false)
      else (
        (ix v_t102 v_r106.1).bind fun v_y107 =>
        (ix v_t102 v_r106.1).bind fun v_y108 =>
        (ix v_t103 v_r106.1).bind fun v_y109 =>
        (ix v_a1 v_t104).bind fun v_y110 =>
        (ix v_t103 v_r106.1).bind fun v_y111 =>
        (orchlaw2_GrowLearns_l2 N v_a1 v_r10 v_a4 v_a3 v_a2 v_a5 v_a6 n_2) (v_t102.set v_r106.1.toNat (w64 (v_y107 + 1))) (v_t103.set v_r106.1.toNat (w64 (v_y109 + v_y110.target))) (w64 (v_t104 + 1))))
    else (
      orchlaw2_GrowLearns_j1 N v_r10 v_a4 v_a1 v_a3 v_a2 v_a5 v_a6 v_t102 v_t103)

def orchlaw2_GrowLearns (N : Nat) (v_a1 : List Sample) (v_a2 : Int) (v_a3 : Int) (v_a4 : Int) (v_a5 : Int) (v_a6 : Int) : Option Bool :=
  (grow_Fit N [(Sample.mk [1] 0), (Sample.mk [2] 0), (Sample.mk [3] 9), (Sample.mk [4] 9)] 1 1 1).bind fun v_r7 =>
  (gd (!(v_r7.2.isSome || ((v_r7.1.length : Int) != 3))) (ix v_r7.1 0) (Node.mk 0 0 0 0 false 0)).bind fun v_y8 =>
  (gd (!((v_r7.2.isSome || ((v_r7.1.length : Int) != 3)) || (v_y8.cut != 3))) (ix v_r7.1 2) (Node.mk 0 0 0 0 false 0)).bind fun v_y9 =>
  if (((v_r7.2.isSome || ((v_r7.1.length : Int) != 3)) || (v_y8.cut != 3)) || (v_y9.value != 9)) then (
    some false)
  else (
    (grow_Fit N v_a1 v_a2 v_a3 v_a4).bind fun v_r10 =>
    if v_r10.2.isSome then (
      some true)
    else (
      (tree_Check N v_r10.1 v_a2).bind fun v_r11 =>
      (tree_Depth N v_r10.1).bind fun v_r12 =>
      if ((v_r11.2.isSome || v_r12.2.isSome) || (decide (v_r12.1 > v_a3))) then (
        some false)
      else (
        orchlaw2_GrowLearns_l2 N v_a1 v_r10 v_a4 v_a3 v_a2 v_a5 v_a6 N (List.replicate 63 0) (List.replicate 63 0) 0)))

end Go.Dl
