/- Printed by wip/gen: what the functions compute, in plain Lean. -/
import Derived.Test.YtbalmknhjokgaaaDoorDlFs
set_option linter.unusedVariables false
namespace Go.Dl

structure Node where
  feature : Int
  cut : Int
  left : Int
  right : Int
  less : Bool
  value : Int
  deriving DecidableEq

structure Grove where
  features : Int
  way : Int
  weights : List Int
  trees : List (List Node)
  deriving DecidableEq

structure Call where
  what : Int
  session : Int
  seq : Int
  name : ByteArray
  number : Int
  share : Int
  bytes : List Int
  deriving DecidableEq

structure Score where
  value : Int
  version : Int
  index : Int
  deriving DecidableEq

structure Answer where
  number : Int
  index : Int
  deriving DecidableEq

structure Version where
  name : ByteArray
  number : Int
  stage : Int
  share : Int
  deriving DecidableEq

structure Use where
  feature : Int
  nodes : Int
  gain : Int
  deriving DecidableEq

structure Sample where
  row : List Int
  target : Int
  deriving DecidableEq

def eqNode (x y : Node) : Bool := ((x.feature == y.feature) && ((x.cut == y.cut) && ((x.left == y.left) && ((x.right == y.right) && ((x.less == y.less) && ((x.value == y.value) && true))))))

/-- the number of an error -/
def plain_Told (N : Nat) (e : Option Int) : Option Int := some (e.getD 0)

def orchref1_Cell (N : Nat) (v_n1 : Int) : Option Bool :=
  some ((decide (v_n1 ≥ (-1000000))) && (decide (v_n1 ≤ 1000000)))

def orchref1_none (N : Nat) (v_c1 : Int) : Option Bool :=
  some (v_c1 == (-1125899906842624))

def orchref1_Row_j1 (N : Nat)  : Option Int :=
  some 0

def orchref1_Row_l1 (N : Nat) (v_row1 : List Int) : Nat → Int → Option Int
  | 0, _ => none
  | n_1 + 1, v_i25 =>
    if (decide (v_i25 < (v_row1.length : Int))) then (
      (ix v_row1 v_i25).bind fun v_y26 =>
      (orchref1_Cell N v_y26).bind fun v_r27 =>
      (ix v_row1 v_i25).bind fun v_y28 =>
      (orchref1_none N v_y28).bind fun v_r29 =>
      if ((!v_r27) && (!v_r29)) then (
        some 1)
      else (
        (orchref1_Row_l1 N v_row1 n_1) (w64 (v_i25 + 1))))
    else (
      orchref1_Row_j1 N)

def orchref1_Row (N : Nat) (v_row1 : List Int) : Option Int :=
  if (decide ((v_row1.length : Int) > 8)) then (
    some 4)
  else (
    orchref1_Row_l1 N v_row1 N 0)

def orchref2_Samples_j1 (N : Nat)  : Option (Int × Int) :=
  some (0, 0)

def orchref2_Samples_j2 (N : Nat) (kn_orchref2_Samples_l1 : Int → Option (Int × Int)) (v_t136 : Int) : Option (Int × Int) :=
  kn_orchref2_Samples_l1 (w64 (v_t136 + 1))

def orchref2_Samples_l2 (N : Nat) (v_a2 : Int) (v_a1 : List Sample) (v_t136 : Int) (kn_orchref2_Samples_l1 : Int → Option (Int × Int)) : Nat → Int → Option (Int × Int)
  | 0, _ => none
  | n_2 + 1, v_t160 =>
    if (decide (v_t160 < v_a2)) then (
      (ix v_a1 v_t136).bind fun v_y161 =>
      (ix v_y161.row v_t160).bind fun v_y162 =>
      if (v_y162 == (-1125899906842624)) then (
        some (v_t136, 5))
      else (
        (orchref2_Samples_l2 N v_a2 v_a1 v_t136 kn_orchref2_Samples_l1 n_2) (w64 (v_t160 + 1))))
    else (
      orchref2_Samples_j2 N kn_orchref2_Samples_l1 v_t136)

def orchref2_Samples_l1 (N : Nat) (v_a1 : List Sample) (v_a2 : Int) : Nat → Int → Option (Int × Int)
  | 0, _ => none
  | n_1 + 1, v_t136 =>
    if (decide (v_t136 < (v_a1.length : Int))) then (
      (ix v_a1 v_t136).bind fun v_y150 =>
      (orchref1_Row N v_y150.row).bind fun v_r151 =>
      if (v_r151 != 0) then (
        some (v_t136, v_r151))
      else (
        (ix v_a1 v_t136).bind fun v_y152 =>
        (gd (!(decide (v_y152.target < (-1000)))) (ix v_a1 v_t136) (Sample.mk [] 0)).bind fun v_y153 =>
        if ((decide (v_y152.target < (-1000))) || (decide (v_y153.target > 1000))) then (
          some (v_t136, 1))
        else (
          (ix v_a1 v_t136).bind fun v_y154 =>
          if ((v_y154.row.length : Int) != v_a2) then (
            some (v_t136, 3))
          else (
            orchref2_Samples_l2 N v_a2 v_a1 v_t136 (orchref2_Samples_l1 N v_a1 v_a2 n_1) N 0))))
    else (
      orchref2_Samples_j1 N)

def orchref2_Samples (N : Nat) (v_a1 : List Sample) (v_a2 : Int) : Option (Int × Int) :=
  if (decide ((v_a1.length : Int) > 60)) then (
    some (0, 4))
  else (
    if ((v_a1.length : Int) == 0) then (
      some (0, 5))
    else (
      if ((decide (v_a2 < 0)) || (decide (v_a2 > 8))) then (
        some (0, 1))
      else (
        orchref2_Samples_l1 N v_a1 v_a2 N 0)))

def cut_Cell (N : Nat) (v_n1 : Int) : Option Bool :=
  some ((decide (v_n1 ≥ (-1000000))) && (decide (v_n1 ≤ 1000000)))

def row_Check_j1 (N : Nat)  : Option (Option Int) :=
  some none

def row_Check_l1 (N : Nat) (v_row1 : List Int) : Nat → Int → Option (Option Int)
  | 0, _ => none
  | n_1 + 1, v_t15 =>
    if (decide (v_t15 < (v_row1.length : Int))) then (
      (ix v_row1 v_t15).bind fun v_y16 =>
      (gd (v_y16 != (-1125899906842624)) (cut_Cell N v_y16) false).bind fun v_r17 =>
      if ((v_y16 != (-1125899906842624)) && (!v_r17)) then (
        some (some 1))
      else (
        (row_Check_l1 N v_row1 n_1) (w64 (v_t15 + 1))))
    else (
      row_Check_j1 N)

def row_Check (N : Nat) (v_row1 : List Int) : Option (Option Int) :=
  if (decide ((v_row1.length : Int) > 8)) then (
    some (some 4))
  else (
    row_Check_l1 N v_row1 N 0)

def slices_Index_j1 (N : Nat)  : Option Int :=
  some (-1)

def slices_Index_l1 (N : Nat) (v_s1 : List Int) (v_v2 : Int) : Nat → Int → Option Int
  | 0, _ => none
  | n_1 + 1, v_t11 =>
    if (decide (v_t11 < (v_s1.length : Int))) then (
      (ix v_s1 v_t11).bind fun v_y12 =>
      if (v_v2 == v_y12) then (
        some v_t11)
      else (
        (slices_Index_l1 N v_s1 v_v2 n_1) (w64 (v_t11 + 1))))
    else (
      slices_Index_j1 N)

def slices_Index (N : Nat) (v_s1 : List Int) (v_v2 : Int) : Option Int :=
  slices_Index_l1 N v_s1 v_v2 N 0

def slices_Contains (N : Nat) (v_s1 : List Int) (v_v2 : Int) : Option Bool :=
  (slices_Index N v_s1 v_v2).bind fun v_r3 =>
  some (decide (v_r3 ≥ 0))

def grow_Check_j1 (N : Nat)  : Option (Int × (Option Int)) :=
  some (0, none)

def grow_Check_l1 (N : Nat) (v_a1 : List Sample) (v_a2 : Int) : Nat → Int → Option (Int × (Option Int))
  | 0, _ => none
  | n_1 + 1, v_t21 =>
    if (decide (v_t21 < (v_a1.length : Int))) then (
      (ix v_a1 v_t21).bind fun v_y22 =>
      (row_Check N v_y22.row).bind fun v_r23 =>
      if v_r23.isSome then (
        some (v_t21, v_r23))
      else (
        if ((decide (v_y22.target < (-1000))) || (decide (v_y22.target > 1000))) then (
          some (v_t21, (some 1)))
        else (
          if ((v_y22.row.length : Int) != v_a2) then (
            some (v_t21, (some 3)))
          else (
            (slices_Contains N v_y22.row (-1125899906842624)).bind fun v_r24 =>
            if v_r24 then (
              some (v_t21, (some 5)))
            else (
              (grow_Check_l1 N v_a1 v_a2 n_1) (w64 (v_t21 + 1)))))))
    else (
      grow_Check_j1 N)

def grow_Check (N : Nat) (v_a1 : List Sample) (v_a2 : Int) : Option (Int × (Option Int)) :=
  if (decide ((v_a1.length : Int) > 60)) then (
    some (0, (some 4)))
  else (
    if ((v_a1.length : Int) == 0) then (
      some (0, (some 5)))
    else (
      if ((decide (v_a2 < 0)) || (decide (v_a2 > 8))) then (
        some (0, (some 1)))
      else (
        grow_Check_l1 N v_a1 v_a2 N 0)))

def orchsame_Error (N : Nat) (v_err1 : Option Int) (v_e2 : Int) : Option Bool :=
  (plain_Told N v_err1).bind fun v_r3 =>
  some (v_r3 == v_e2)

def orchref2_sum_j1 (N : Nat) (v_s20 : Int) (v_n21 : Int) : Option (Int × Int) :=
  some (v_s20, v_n21)

def orchref2_sum_l1 (N : Nat) (v_l1 : List Sample) (v_feature2 : Int) (v_cut3 : Int) (v_below4 : Bool) : Nat → Int → Int → Int → Option (Int × Int)
  | 0, _, _, _ => none
  | n_1 + 1, v_s31, v_n32, v_i33 =>
    if (decide (v_i33 < (v_l1.length : Int))) then (
      (ix v_l1 v_i33).bind fun v_y34 =>
      (ix v_y34.row v_feature2).bind fun v_y35 =>
      if ((decide (v_y35 < v_cut3)) == v_below4) then (
        (ix v_l1 v_i33).bind fun v_y36 =>
        (orchref2_sum_l1 N v_l1 v_feature2 v_cut3 v_below4 n_1) (w64 (v_s31 + v_y36.target)) (w64 (v_n32 + 1)) (w64 (v_i33 + 1)))
      else (
        (orchref2_sum_l1 N v_l1 v_feature2 v_cut3 v_below4 n_1) v_s31 v_n32 (w64 (v_i33 + 1))))
    else (
      orchref2_sum_j1 N v_s31 v_n32)

def orchref2_sum (N : Nat) (v_l1 : List Sample) (v_feature2 : Int) (v_cut3 : Int) (v_below4 : Bool) : Option (Int × Int) :=
  orchref2_sum_l1 N v_l1 v_feature2 v_cut3 v_below4 N 0 0 0

def orchref2_Split_j2 (N : Nat) (v_t262 : Int) (v_t263 : Int) (v_t264 : Bool) : Option (Int × Int × Bool) :=
  some (v_t262, v_t263, v_t264)

def orchref2_Split_j3 (N : Nat) (kn_orchref2_Split_l1 : Int → Int → Int → Int → Bool → Int → Option (Int × Int × Bool)) (v_t455 : Int) (v_t483 : Int) (v_t484 : Int) (v_t485 : Int) (v_t486 : Int) (v_t487 : Bool) : Option (Int × Int × Bool) :=
  kn_orchref2_Split_l1 v_t483 v_t484 v_t485 v_t486 v_t487 (w64 (v_t455 + 1))

def orchref2_Split_l2 (N : Nat) (v_a1 : List Sample) (v_t455 : Int) (v_a3 : Int) (kn_orchref2_Split_l1 : Int → Int → Int → Int → Bool → Int → Option (Int × Int × Bool)) : Nat → Int → Int → Int → Int → Bool → Int → Option (Int × Int × Bool)
  | 0, _, _, _, _, _, _ => none
  | n_2 + 1, v_t504, v_t505, v_t506, v_t507, v_t508, v_t509 =>
    if (decide (v_t509 < (v_a1.length : Int))) then (
      (ix v_a1 v_t509).bind fun v_y510 =>
      (ix v_y510.row v_t455).bind fun v_y511 =>
      (orchref2_sum N v_a1 v_t455 v_y511 true).bind fun v_r512 =>
      (orchref2_sum N v_a1 v_t455 v_y511 false).bind fun v_r513 =>
      if (((decide (v_r512.2 < v_a3)) || (decide (v_r513.2 < v_a3))) || (v_r512.2 == 0)) then (
        (orchref2_Split_l2 N v_a1 v_t455 v_a3 kn_orchref2_Split_l1 n_2) v_t504 v_t505 v_t506 v_t507 v_t508 (w64 (v_t509 + 1)))
      else (
        (some (w64 ((w64 ((w64 (v_r512.1 * v_r512.1)) * v_r513.2)) + (w64 ((w64 (v_r513.1 * v_r513.1)) * v_r512.2))))).bind fun v_t514 =>
        if ((decide ((w64 (v_t514 * v_t505)) > (w64 (v_t504 * (w64 (v_r512.2 * v_r513.2)))))) || (((v_t508 && ((w64 (v_t514 * v_t505)) == (w64 (v_t504 * (w64 (v_r512.2 * v_r513.2)))))) && (v_t455 == v_t506)) && (decide (v_y511 < v_t507)))) then (
          (orchref2_Split_l2 N v_a1 v_t455 v_a3 kn_orchref2_Split_l1 n_2) v_t514 (w64 (v_r512.2 * v_r513.2)) v_t455 v_y511 true (w64 (v_t509 + 1)))
        else (
          (orchref2_Split_l2 N v_a1 v_t455 v_a3 kn_orchref2_Split_l1 n_2) v_t504 v_t505 v_t506 v_t507 v_t508 (w64 (v_t509 + 1)))))
    else (
      orchref2_Split_j3 N kn_orchref2_Split_l1 v_t455 v_t504 v_t505 v_t506 v_t507 v_t508)

def orchref2_Split_l1 (N : Nat) (v_a2 : Int) (v_a1 : List Sample) (v_a3 : Int) : Nat → Int → Int → Int → Int → Bool → Int → Option (Int × Int × Bool)
  | 0, _, _, _, _, _, _ => none
  | n_1 + 1, v_t450, v_t451, v_t452, v_t453, v_t454, v_t455 =>
    if (decide (v_t455 < v_a2)) then (
      orchref2_Split_l2 N v_a1 v_t455 v_a3 (orchref2_Split_l1 N v_a2 v_a1 v_a3 n_1) N v_t450 v_t451 v_t452 v_t453 v_t454 0)
    else (
      orchref2_Split_j2 N v_t452 v_t453 v_t454)

def orchref2_Split_j1 (N : Nat) (v_a2 : Int) (v_a1 : List Sample) (v_a3 : Int) (v_t11 : Int) : Option (Int × Int × Bool) :=
  orchref2_Split_l1 N v_a2 v_a1 v_a3 N (w64 (v_t11 * v_t11)) (v_a1.length : Int) 0 0 false 0

def orchref2_Split_l3 (N : Nat) (v_a1 : List Sample) (v_a2 : Int) (v_a3 : Int) : Nat → Int → Int → Option (Int × Int × Bool)
  | 0, _, _ => none
  | n_3 + 1, v_t519, v_t520 =>
    if (decide (v_t520 < (v_a1.length : Int))) then (
      (ix v_a1 v_t520).bind fun v_y521 =>
      (orchref2_Split_l3 N v_a1 v_a2 v_a3 n_3) (w64 (v_t519 + v_y521.target)) (w64 (v_t520 + 1)))
    else (
      orchref2_Split_j1 N v_a2 v_a1 v_a3 v_t519)

def orchref2_Split (N : Nat) (v_a1 : List Sample) (v_a2 : Int) (v_a3 : Int) : Option (Int × Int × Bool) :=
  orchref2_Split_l3 N v_a1 v_a2 v_a3 N 0 0

def grow_Least (N : Nat) (v_n1 : Int) : Option Bool :=
  some ((decide (v_n1 ≥ 1)) && (decide (v_n1 ≤ 60)))

def grow_sum_j1 (N : Nat) (v_n9 : Int) : Option Int :=
  some v_n9

def grow_sum_l1 (N : Nat) (v_l1 : List Sample) : Nat → Int → Int → Option Int
  | 0, _, _ => none
  | n_1 + 1, v_n14, v_t15 =>
    if (decide (v_t15 < (v_l1.length : Int))) then (
      (ix v_l1 v_t15).bind fun v_y16 =>
      (grow_sum_l1 N v_l1 n_1) (w64 (v_n14 + v_y16.target)) (w64 (v_t15 + 1)))
    else (
      grow_sum_j1 N v_n14)

def grow_sum (N : Nat) (v_l1 : List Sample) : Option Int :=
  grow_sum_l1 N v_l1 N 0 0

def grow_part_j1 (N : Nat) (v_below22 : List Sample) (v_rest23 : List Sample) : Option ((List Sample) × (List Sample)) :=
  some (v_below22, v_rest23)

def grow_part_l1 (N : Nat) (v_l1 : List Sample) (v_feature2 : Int) (v_cut3 : Int) : Nat → (List Sample) → (List Sample) → Int → Option ((List Sample) × (List Sample))
  | 0, _, _, _ => none
  | n_1 + 1, v_below35, v_rest36, v_t37 =>
    if (decide (v_t37 < (v_l1.length : Int))) then (
      (ix v_l1 v_t37).bind fun v_y38 =>
      (ix v_y38.row v_feature2).bind fun v_y39 =>
      if (decide (v_y39 < v_cut3)) then (
        (app v_below35 [v_y38]).bind fun v_t40 =>
        (grow_part_l1 N v_l1 v_feature2 v_cut3 n_1) v_t40 v_rest36 (w64 (v_t37 + 1)))
      else (
        (app v_rest36 [v_y38]).bind fun v_t41 =>
        (grow_part_l1 N v_l1 v_feature2 v_cut3 n_1) v_below35 v_t41 (w64 (v_t37 + 1))))
    else (
      grow_part_j1 N v_below35 v_rest36)

def grow_part (N : Nat) (v_l1 : List Sample) (v_feature2 : Int) (v_cut3 : Int) : Option ((List Sample) × (List Sample)) :=
  grow_part_l1 N v_l1 v_feature2 v_cut3 N [] [] 0

def grow_best_j1 (N : Nat) (v_t430 : Int) (v_t431 : Int) : Option (Int × Int) :=
  some (v_t430, v_t431)

def grow_best_j2 (N : Nat) (kn_grow_best_l1 : Int → Int → Int → Int → Int → Option (Int × Int)) (v_t719 : Int) (v_t787 : Int) (v_t788 : Int) (v_t789 : Int) (v_t790 : Int) : Option (Int × Int) :=
  kn_grow_best_l1 v_t787 v_t788 v_t789 v_t790 (w64 (v_t719 + 1))

def grow_best_l2 (N : Nat) (v_t807 : List Int) (v_a1 : List Sample) (v_t719 : Int) (v_a3 : Int) (kn_grow_best_l1 : Int → Int → Int → Int → Int → Option (Int × Int)) : Nat → Int → Int → Int → Int → Int → Option (Int × Int)
  | 0, _, _, _, _, _ => none
  | n_2 + 1, v_t831, v_t832, v_t833, v_t834, v_t835 =>
    if (decide (v_t835 < (v_t807.length : Int))) then (
      (ix v_t807 v_t835).bind fun v_y836 =>
      (grow_part N v_a1 v_t719 v_y836).bind fun v_r837 =>
      if ((decide ((v_r837.1.length : Int) < v_a3)) || (decide ((v_r837.2.length : Int) < v_a3))) then (
        (grow_best_l2 N v_t807 v_a1 v_t719 v_a3 kn_grow_best_l1 n_2) v_t831 v_t832 v_t833 v_t834 (w64 (v_t835 + 1)))
      else (
        (grow_sum N v_r837.1).bind fun v_r838 =>
        (grow_sum N v_r837.1).bind fun v_r839 =>
        (some (w64 ((w64 (v_r838 * v_r839)) * (v_r837.2.length : Int)))).bind fun v_t840 =>
        (grow_sum N v_r837.2).bind fun v_r841 =>
        (grow_sum N v_r837.2).bind fun v_r842 =>
        (some (w64 ((w64 (v_r841 * v_r842)) * (v_r837.1.length : Int)))).bind fun v_t843 =>
        (some (w64 ((v_r837.1.length : Int) * (v_r837.2.length : Int)))).bind fun v_t844 =>
        if (decide ((w64 ((w64 (v_t840 + v_t843)) * v_t834)) > (w64 (v_t833 * v_t844)))) then (
          (grow_best_l2 N v_t807 v_a1 v_t719 v_a3 kn_grow_best_l1 n_2) v_t719 v_y836 (w64 (v_t840 + v_t843)) v_t844 (w64 (v_t835 + 1)))
        else (
          (grow_best_l2 N v_t807 v_a1 v_t719 v_a3 kn_grow_best_l1 n_2) v_t831 v_t832 v_t833 v_t834 (w64 (v_t835 + 1)))))
    else (
      grow_best_j2 N kn_grow_best_l1 v_t719 v_t831 v_t832 v_t833 v_t834)

def grow_best_j3 (N : Nat) (v_a1 : List Sample) (v_t719 : Int) (v_a3 : Int) (kn_grow_best_l1 : Int → Int → Int → Int → Int → Option (Int × Int)) (v_t715 : Int) (v_t716 : Int) (v_t717 : Int) (v_t718 : Int) (v_t804 : List Int) : Option (Int × Int) :=
  (slices_Sort N v_t804).bind fun v_r805 =>
  (slices_Compact N v_r805).bind fun v_r806 =>
  (sub v_r806 (min 1 (v_r805.length : Int)) (v_r806.length : Int)).bind fun v_t807 =>
  grow_best_l2 N v_t807 v_a1 v_t719 v_a3 kn_grow_best_l1 N v_t715 v_t716 v_t717 v_t718 0

def grow_best_l3 (N : Nat) (v_a1 : List Sample) (v_t719 : Int) (v_a3 : Int) (kn_grow_best_l1 : Int → Int → Int → Int → Int → Option (Int × Int)) (v_t715 : Int) (v_t716 : Int) (v_t717 : Int) (v_t718 : Int) : Nat → (List Int) → Int → Option (Int × Int)
  | 0, _, _ => none
  | n_3 + 1, v_t853, v_t854 =>
    if (decide (v_t854 < (v_a1.length : Int))) then (
      (ix v_a1 v_t854).bind fun v_y855 =>
      (ix v_y855.row v_t719).bind fun v_y856 =>
      (app v_t853 [v_y856]).bind fun v_t857 =>
      (grow_best_l3 N v_a1 v_t719 v_a3 kn_grow_best_l1 v_t715 v_t716 v_t717 v_t718 n_3) v_t857 (w64 (v_t854 + 1)))
    else (
      grow_best_j3 N v_a1 v_t719 v_a3 kn_grow_best_l1 v_t715 v_t716 v_t717 v_t718 v_t853)

def grow_best_l1 (N : Nat) (v_a2 : Int) (v_a1 : List Sample) (v_a3 : Int) : Nat → Int → Int → Int → Int → Int → Option (Int × Int)
  | 0, _, _, _, _, _ => none
  | n_1 + 1, v_t715, v_t716, v_t717, v_t718, v_t719 =>
    if (decide (v_t719 < v_a2)) then (
      grow_best_l3 N v_a1 v_t719 v_a3 (grow_best_l1 N v_a2 v_a1 v_a3 n_1) v_t715 v_t716 v_t717 v_t718 N [] 0)
    else (
      grow_best_j1 N v_t715 v_t716)

def grow_best (N : Nat) (v_a1 : List Sample) (v_a2 : Int) (v_a3 : Int) : Option (Int × Int) :=
  (grow_sum N v_a1).bind fun v_r4 =>
  (grow_sum N v_a1).bind fun v_r5 =>
  grow_best_l1 N v_a2 v_a1 v_a3 N (-1) 0 (w64 (v_r4 * v_r5)) (v_a1.length : Int) 0

def grow_Split (N : Nat) (v_l1 : List Sample) (v_features2 : Int) (v_least3 : Int) : Option (Int × Int × (Option Int)) :=
  (grow_Check N v_l1 v_features2).bind fun v_r4 =>
  if v_r4.2.isSome then (
    some (0, 0, v_r4.2))
  else (
    (grow_Least N v_least3).bind fun v_r5 =>
    if (!v_r5) then (
      some (0, 0, (some 1)))
    else (
      (grow_best N v_l1 v_features2 v_least3).bind fun v_r6 =>
      if (decide (v_r6.1 < 0)) then (
        some (0, 0, (some 5)))
      else (
        some (v_r6.1, v_r6.2, none))))

def orchref1_Floor (N : Nat) (v_a1 : Int) (v_b2 : Int) : Option Int :=
  if (decide (v_a1 < 0)) then (
    (nz v_b2).bind fun v_q3 =>
    some (w64 (0 - (w64 (Int.tdiv (w64 ((w64 (v_b2 - 1)) - v_a1)) v_b2)))))
  else (
    (nz v_b2).bind fun v_q4 =>
    some (w64 (Int.tdiv v_a1 v_b2)))

def orchref2_part_j1 (N : Nat) (v_out21 : List Sample) : Option (List Sample) :=
  some v_out21

def orchref2_part_l1 (N : Nat) (v_l1 : List Sample) (v_feature2 : Int) (v_cut3 : Int) (v_below4 : Bool) : Nat → (List Sample) → Int → Option (List Sample)
  | 0, _, _ => none
  | n_1 + 1, v_out32, v_i33 =>
    if (decide (v_i33 < (v_l1.length : Int))) then (
      (ix v_l1 v_i33).bind fun v_y34 =>
      (ix v_y34.row v_feature2).bind fun v_y35 =>
      if ((decide (v_y35 < v_cut3)) == v_below4) then (
        (ix v_l1 v_i33).bind fun v_y36 =>
        (app v_out32 [v_y36]).bind fun v_t37 =>
        (orchref2_part_l1 N v_l1 v_feature2 v_cut3 v_below4 n_1) v_t37 (w64 (v_i33 + 1)))
      else (
        (orchref2_part_l1 N v_l1 v_feature2 v_cut3 v_below4 n_1) v_out32 (w64 (v_i33 + 1))))
    else (
      orchref2_part_j1 N v_out32)

def orchref2_part (N : Nat) (v_l1 : List Sample) (v_feature2 : Int) (v_cut3 : Int) (v_below4 : Bool) : Option (List Sample) :=
  orchref2_part_l1 N v_l1 v_feature2 v_cut3 v_below4 N [] 0

def orchref2_Grow_j1 (N : Nat) (v_a2 : List Sample) (v_r6 : Int × Int × Bool) (v_a1 : List Node) (kr_orchref2_Grow : (List Node) → (List Sample) → Int → Int → Int → Option (List Node)) (v_a3 : Int) (v_a4 : Int) (v_a5 : Int) : Option (List Node) :=
  (orchref2_part N v_a2 v_r6.1 v_r6.2.1 true).bind fun v_r24 =>
  (orchref2_part N v_a2 v_r6.1 v_r6.2.1 false).bind fun v_r25 =>
  (app v_a1 [(Node.mk v_r6.1 v_r6.2.1 (w64 ((v_a1.length : Int) + 1)) 0 (decide ((v_r24.length : Int) > (v_r25.length : Int))) 0)]).bind fun v_t26 =>
  (kr_orchref2_Grow v_t26 v_r24 v_a3 (w64 (v_a4 - 1)) v_a5).bind fun v_r27 =>
  (ix v_r27 (v_a1.length : Int)).bind fun v_y28 =>
  (kr_orchref2_Grow (v_r27.set (v_a1.length : Int).toNat ({ v_y28 with right := (v_r27.length : Int) })) v_r25 v_a3 (w64 (v_a4 - 1)) v_a5).bind fun v_r29 =>
  some v_r29

def orchref2_Grow_j2 (N : Nat) (v_a2 : List Sample) (v_a1 : List Node) (v_t37 : Int) : Option (List Node) :=
  (orchref1_Floor N v_t37 (v_a2.length : Int)).bind fun v_r38 =>
  (app v_a1 [(Node.mk (-1) 0 0 0 false v_r38)]).bind fun v_t39 =>
  some v_t39

def orchref2_Grow_l1 (N : Nat) (v_a2 : List Sample) (v_a1 : List Node) : Nat → Int → Int → Option (List Node)
  | 0, _, _ => none
  | n_1 + 1, v_t44, v_t45 =>
    if (decide (v_t45 < (v_a2.length : Int))) then (
      (ix v_a2 v_t45).bind fun v_y46 =>
      (orchref2_Grow_l1 N v_a2 v_a1 n_1) (w64 (v_t44 + v_y46.target)) (w64 (v_t45 + 1)))
    else (
      orchref2_Grow_j2 N v_a2 v_a1 v_t44)

def orchref2_Grow : Nat → (List Node) → (List Sample) → Int → Int → Int → Option (List Node)
  | 0, _, _, _, _, _ => none
  | N + 1, v_a1, v_a2, v_a3, v_a4, v_a5 =>
    (orchref2_Split N v_a2 v_a3 v_a5).bind fun v_r6 =>
    if ((v_a4 == 0) || (!v_r6.2.2)) then (
      orchref2_Grow_l1 N v_a2 v_a1 N 0 0)
    else (
      orchref2_Grow_j1 N v_a2 v_r6 v_a1 (orchref2_Grow N) v_a3 v_a4 v_a5)

def fixed_Floor (N : Nat) (v_a1 : Int) (v_b2 : Int) : Option Int :=
  (nz v_b2).bind fun v_q3 =>
  (nz v_b2).bind fun v_q4 =>
  if (decide ((Int.tmod v_a1 v_b2) < 0)) then (
    some (w64 ((w64 (Int.tdiv v_a1 v_b2)) - 1)))
  else (
    some (w64 (Int.tdiv v_a1 v_b2)))

def grow_Grow_j1 (N : Nat) (v_a2 : List Sample) (v_a1 : List Node) (kr_grow_Grow : (List Node) → (List Sample) → Int → Int → Int → Option (List Node)) (v_a3 : Int) (v_a4 : Int) (v_a5 : Int) (v_t7 : Int) (v_t8 : Int) : Option (List Node) :=
  if (decide (v_t7 < 0)) then (
    (grow_sum N v_a2).bind fun v_r9 =>
    (fixed_Floor N v_r9 (v_a2.length : Int)).bind fun v_r10 =>
    (app v_a1 [(Node.mk (-1) 0 0 0 false v_r10)]).bind fun v_t11 =>
    some v_t11)
  else (
    (grow_part N v_a2 v_t7 v_t8).bind fun v_r12 =>
    (app v_a1 [(Node.mk v_t7 v_t8 (w64 ((v_a1.length : Int) + 1)) 0 (decide ((v_r12.1.length : Int) > (v_r12.2.length : Int))) 0)]).bind fun v_t13 =>
    (kr_grow_Grow v_t13 v_r12.1 v_a3 (w64 (v_a4 - 1)) v_a5).bind fun v_r14 =>
    (ix v_r14 (v_a1.length : Int)).bind fun v_y15 =>
    (kr_grow_Grow (v_r14.set (v_a1.length : Int).toNat ({ v_y15 with right := (v_r14.length : Int) })) v_r12.2 v_a3 (w64 (v_a4 - 1)) v_a5).bind fun v_r16 =>
    some v_r16)

def grow_Grow : Nat → (List Node) → (List Sample) → Int → Int → Int → Option (List Node)
  | 0, _, _, _, _, _ => none
  | N + 1, v_a1, v_a2, v_a3, v_a4, v_a5 =>
    if (decide (v_a4 > 0)) then (
      (grow_best N v_a2 v_a3 v_a5).bind fun v_r17 =>
      grow_Grow_j1 N v_a2 v_a1 (grow_Grow N) v_a3 v_a4 v_a5 v_r17.1 v_r17.2)
    else (
      grow_Grow_j1 N v_a2 v_a1 (grow_Grow N) v_a3 v_a4 v_a5 (-1) 0)

def grow_Fit (N : Nat) (v_l1 : List Sample) (v_features2 : Int) (v_depth3 : Int) (v_least4 : Int) : Option ((List Node) × (Option Int)) :=
  (grow_Check N v_l1 v_features2).bind fun v_r5 =>
  if v_r5.2.isSome then (
    some ([], v_r5.2))
  else (
    (gd (!((decide (v_depth3 < 0)) || (decide (v_depth3 > 5)))) (grow_Least N v_least4) false).bind fun v_r6 =>
    if (((decide (v_depth3 < 0)) || (decide (v_depth3 > 5))) || (!v_r6)) then (
      some ([], (some 1)))
    else (
      (grow_Grow N [] v_l1 v_features2 v_depth3 v_least4).bind fun v_r7 =>
      some (v_r7, none)))

def orchsame_Nodes_j1 (N : Nat)  : Option Bool :=
  some true

def orchsame_Nodes_l1 (N : Nat) (v_a1 : List Node) (v_b2 : List Node) : Nat → Int → Option Bool
  | 0, _ => none
  | n_1 + 1, v_i16 =>
    if (decide (v_i16 < (v_a1.length : Int))) then (
      (ix v_a1 v_i16).bind fun v_y17 =>
      (ix v_b2 v_i16).bind fun v_y18 =>
      if (!(eqNode v_y17 v_y18)) then (
        some false)
      else (
        (orchsame_Nodes_l1 N v_a1 v_b2 n_1) (w64 (v_i16 + 1))))
    else (
      orchsame_Nodes_j1 N)

def orchsame_Nodes (N : Nat) (v_a1 : List Node) (v_b2 : List Node) : Option Bool :=
  if ((v_a1.length : Int) != (v_b2.length : Int)) then (
    some false)
  else (
    orchsame_Nodes_l1 N v_a1 v_b2 N 0)

def orchref1_Depth : Nat → (List Node) → Int → Option Int
  | 0, _, _ => none
  | N + 1, v_t1, v_at2 =>
    (ix v_t1 v_at2).bind fun v_y3 =>
    if (v_y3.feature == (-1)) then (
      some 0)
    else (
      (ix v_t1 v_at2).bind fun v_y4 =>
      ((orchref1_Depth N) v_t1 v_y4.left).bind fun v_r5 =>
      (ix v_t1 v_at2).bind fun v_y6 =>
      ((orchref1_Depth N) v_t1 v_y6.right).bind fun v_r7 =>
      if (decide (v_r7 > v_r5)) then (
        some (w64 (v_r7 + 1)))
      else (
        some (w64 (v_r5 + 1))))

def orchref1_Tree_j2 (N : Nat) (v_a1 : List Node) : Option (Int × Int) :=
  (orchref1_Depth N v_a1 0).bind fun v_r250 =>
  if (decide (v_r250 > 10)) then (
    some (0, 4))
  else (
    some (0, 0))

def orchref1_Tree_j3 (N : Nat) (kn_orchref1_Tree_l1 : Int → Option (Int × Int)) (v_t408 : Int) : Option (Int × Int) :=
  kn_orchref1_Tree_l1 (w64 (v_t408 + 1))

def orchref1_Tree_j4 (N : Nat) (v_t408 : Int) (kn_orchref1_Tree_l1 : Int → Option (Int × Int)) (v_t467 : Int) : Option (Int × Int) :=
  if (v_t467 != 1) then (
    some (v_t408, 7))
  else (
    orchref1_Tree_j3 N kn_orchref1_Tree_l1 v_t408)

def orchref1_Tree_j5 (N : Nat) (v_a1 : List Node) (v_t481 : Int) (v_t408 : Int) (kn_orchref1_Tree_l2 : Int → Int → Option (Int × Int)) (v_t484 : Int) : Option (Int × Int) :=
  (ix v_a1 v_t481).bind fun v_y485 =>
  if (v_y485.right == v_t408) then (
    kn_orchref1_Tree_l2 (w64 (v_t484 + 1)) (w64 (v_t481 + 1)))
  else (
    kn_orchref1_Tree_l2 v_t484 (w64 (v_t481 + 1)))

def orchref1_Tree_l2 (N : Nat) (v_a1 : List Node) (v_t408 : Int) (kn_orchref1_Tree_l1 : Int → Option (Int × Int)) : Nat → Int → Int → Option (Int × Int)
  | 0, _, _ => none
  | n_2 + 1, v_t480, v_t481 =>
    if (decide (v_t481 < (v_a1.length : Int))) then (
      (ix v_a1 v_t481).bind fun v_y482 =>
      if (v_y482.feature == (-1)) then (
        (orchref1_Tree_l2 N v_a1 v_t408 kn_orchref1_Tree_l1 n_2) v_t480 (w64 (v_t481 + 1)))
      else (
        (ix v_a1 v_t481).bind fun v_y486 =>
        if (v_y486.left == v_t408) then (
          orchref1_Tree_j5 N v_a1 v_t481 v_t408 (orchref1_Tree_l2 N v_a1 v_t408 kn_orchref1_Tree_l1 n_2) (w64 (v_t480 + 1)))
        else (
          orchref1_Tree_j5 N v_a1 v_t481 v_t408 (orchref1_Tree_l2 N v_a1 v_t408 kn_orchref1_Tree_l1 n_2) v_t480)))
    else (
      orchref1_Tree_j4 N v_t408 kn_orchref1_Tree_l1 v_t480)

def orchref1_Tree_l1 (N : Nat) (v_a1 : List Node) : Nat → Int → Option (Int × Int)
  | 0, _ => none
  | n_1 + 1, v_t408 =>
    if (decide (v_t408 < (v_a1.length : Int))) then (
      orchref1_Tree_l2 N v_a1 v_t408 (orchref1_Tree_l1 N v_a1 n_1) N 0 0)
    else (
      orchref1_Tree_j2 N v_a1)

def orchref1_Tree_j1 (N : Nat) (v_a1 : List Node) : Option (Int × Int) :=
  orchref1_Tree_l1 N v_a1 N 1

def orchref1_Tree_l3 (N : Nat) (v_a1 : List Node) (v_a2 : Int) : Nat → Int → Option (Int × Int)
  | 0, _ => none
  | n_3 + 1, v_t494 =>
    if (decide (v_t494 < (v_a1.length : Int))) then (
      (ix v_a1 v_t494).bind fun v_y495 =>
      (orchref1_Cell N v_y495.value).bind fun v_r496 =>
      (orchref1_Cell N v_y495.cut).bind fun v_r497 =>
      if (v_y495.feature == (-1)) then (
        if (!v_r496) then (
          some (v_t494, 1))
        else (
          if ((((v_y495.cut != 0) || (v_y495.left != 0)) || (v_y495.right != 0)) || v_y495.less) then (
            some (v_t494, 3))
          else (
            (orchref1_Tree_l3 N v_a1 v_a2 n_3) (w64 (v_t494 + 1)))))
      else (
        if (((((((decide (v_y495.feature < 0)) || (decide (v_y495.feature ≥ v_a2))) || (!v_r497)) || (decide (v_y495.left ≤ v_t494))) || (decide (v_y495.left ≥ (v_a1.length : Int)))) || (decide (v_y495.right ≤ v_t494))) || (decide (v_y495.right ≥ (v_a1.length : Int)))) then (
          some (v_t494, 1))
        else (
          if ((v_y495.value != 0) || (v_y495.left == v_y495.right)) then (
            some (v_t494, 3))
          else (
            (orchref1_Tree_l3 N v_a1 v_a2 n_3) (w64 (v_t494 + 1))))))
    else (
      orchref1_Tree_j1 N v_a1)

def orchref1_Tree (N : Nat) (v_a1 : List Node) (v_a2 : Int) : Option (Int × Int) :=
  if (decide ((v_a1.length : Int) > 63)) then (
    some (0, 4))
  else (
    if ((v_a1.length : Int) == 0) then (
      some (0, 5))
    else (
      if ((decide (v_a2 < 0)) || (decide (v_a2 > 8))) then (
        some (0, 1))
      else (
        orchref1_Tree_l3 N v_a1 v_a2 N 0)))

def orchref2_Ready (N : Nat) (v_t1 : List Node) (v_l2 : List Sample) : Option Int :=
  if ((v_l2.length : Int) == 0) then (
    some 5)
  else (
    (ix v_l2 0).bind fun v_y3 =>
    (orchref1_Tree N v_t1 (v_y3.row.length : Int)).bind fun v_r4 =>
    if (v_r4.2 == 0) then (
      (orchref2_Samples N v_l2 (v_y3.row.length : Int)).bind fun v_r5 =>
      some v_r5.2)
    else (
      some v_r4.2))

def orchref1_Left (N : Nat) (v_n1 : Node) (v_c2 : Int) : Option Bool :=
  (orchref1_none N v_c2).bind fun v_r3 =>
  if v_r3 then (
    some v_n1.less)
  else (
    some (decide (v_c2 < v_n1.cut)))

def orchref1_Leaf_j1 (N : Nat) (v_at34 : Int) (v_way35 : List Int) : Option (Int × (List Int)) :=
  some (v_at34, v_way35)

def orchref1_Leaf_l1 (N : Nat) (v_t1 : List Node) (v_row2 : List Int) : Nat → Int → (List Int) → Option (Int × (List Int))
  | 0, _, _ => none
  | n_1 + 1, v_at56, v_way57 =>
    (ix v_t1 v_at56).bind fun v_y58 =>
    if (v_y58.feature != (-1)) then (
      (ix v_t1 v_at56).bind fun v_y59 =>
      (ix v_t1 v_at56).bind fun v_y60 =>
      (ix v_row2 v_y60.feature).bind fun v_y61 =>
      (orchref1_Left N v_y59 v_y61).bind fun v_r62 =>
      if v_r62 then (
        (ix v_t1 v_at56).bind fun v_y63 =>
        (app v_way57 [v_y63.left]).bind fun v_t64 =>
        (orchref1_Leaf_l1 N v_t1 v_row2 n_1) v_y63.left v_t64)
      else (
        (ix v_t1 v_at56).bind fun v_y65 =>
        (app v_way57 [v_y65.right]).bind fun v_t66 =>
        (orchref1_Leaf_l1 N v_t1 v_row2 n_1) v_y65.right v_t66))
    else (
      orchref1_Leaf_j1 N v_at56 v_way57)

def orchref1_Leaf (N : Nat) (v_t1 : List Node) (v_row2 : List Int) : Option (Int × (List Int)) :=
  orchref1_Leaf_l1 N v_t1 v_row2 N 0 [0]

def orchref2_Value (N : Nat) (v_t1 : List Node) (v_row2 : List Int) : Option Int :=
  (orchref1_Leaf N v_t1 v_row2).bind fun v_r3 =>
  (ix v_t1 v_r3.1).bind fun v_y4 =>
  some v_y4.value

def orchref2_Wrong_j1 (N : Nat) (v_n19 : Int) : Option Int :=
  some v_n19

def orchref2_Wrong_l1 (N : Nat) (v_l2 : List Sample) (v_t1 : List Node) : Nat → Int → Int → Option Int
  | 0, _, _ => none
  | n_1 + 1, v_n30, v_i31 =>
    if (decide (v_i31 < (v_l2.length : Int))) then (
      (ix v_l2 v_i31).bind fun v_y32 =>
      (ix v_l2 v_i31).bind fun v_y33 =>
      (orchref2_Value N v_t1 v_y33.row).bind fun v_r34 =>
      (some (w64 ((w64 (v_y32.target - v_r34)) * (w64 (v_y32.target - v_r34))))).bind fun v_t35 =>
      (orchref2_Wrong_l1 N v_l2 v_t1 n_1) (w64 (v_n30 + v_t35)) (w64 (v_i31 + 1)))
    else (
      orchref2_Wrong_j1 N v_n30)

def orchref2_Wrong (N : Nat) (v_t1 : List Node) (v_l2 : List Sample) : Option Int :=
  orchref2_Wrong_l1 N v_l2 v_t1 N 0 0

def tree_node_1 (N : Nat) (v_k1 : Int) (v_a2 : Int) (v_a3 : List Node) : Option Bool :=
  some ((decide (v_k1 > v_a2)) && (decide (v_k1 < (v_a3.length : Int))))

def tree_node (N : Nat) (v_a1 : List Node) (v_a2 : Int) (v_a3 : Int) : Option (Option Int) :=
  (ix v_a1 v_a2).bind fun v_y4 =>
  if (v_y4.feature == (-1)) then (
    (cut_Cell N v_y4.value).bind fun v_r5 =>
    if (!v_r5) then (
      some (some 1))
    else (
      if ((((v_y4.cut != 0) || (v_y4.left != 0)) || (v_y4.right != 0)) || v_y4.less) then (
        some (some 3))
      else (
        some none)))
  else (
    (gd (!((decide (v_y4.feature < 0)) || (decide (v_y4.feature ≥ v_a3)))) (cut_Cell N v_y4.cut) false).bind fun v_r6 =>
    (gd (!(((decide (v_y4.feature < 0)) || (decide (v_y4.feature ≥ v_a3))) || (!v_r6))) (tree_node_1 N v_y4.left v_a2 v_a1) false).bind fun v_r7 =>
    (gd (!((((decide (v_y4.feature < 0)) || (decide (v_y4.feature ≥ v_a3))) || (!v_r6)) || (!v_r7))) (tree_node_1 N v_y4.right v_a2 v_a1) false).bind fun v_r8 =>
    if (((((decide (v_y4.feature < 0)) || (decide (v_y4.feature ≥ v_a3))) || (!v_r6)) || (!v_r7)) || (!v_r8)) then (
      some (some 1))
    else (
      if ((v_y4.value != 0) || (v_y4.left == v_y4.right)) then (
        some (some 3))
      else (
        some none)))

def tree_depth_j1 (N : Nat) (v_d19 : List Int) : Option Int :=
  (ix v_d19 0).bind fun v_y20 =>
  some v_y20

def tree_depth_l1 (N : Nat) (v_t1 : List Node) : Nat → (List Int) → Int → Option Int
  | 0, _, _ => none
  | n_1 + 1, v_d31, v_i32 =>
    if (decide (v_i32 ≥ 0)) then (
      (ix v_t1 v_i32).bind fun v_y33 =>
      if (v_y33.feature != (-1)) then (
        (ix v_d31 v_y33.left).bind fun v_y34 =>
        (ix v_d31 v_y33.right).bind fun v_y35 =>
        (ix v_d31 v_i32).bind fun v_y36 =>
        (tree_depth_l1 N v_t1 n_1) (v_d31.set v_i32.toNat (w64 (1 + (max v_y34 v_y35)))) (w64 (v_i32 - 1)))
      else (
        (tree_depth_l1 N v_t1 n_1) v_d31 (w64 (v_i32 - 1))))
    else (
      tree_depth_j1 N v_d31)

def tree_depth (N : Nat) (v_t1 : List Node) : Option Int :=
  (mk (v_t1.length : Int) (0 : Int)).bind fun v_t2 =>
  tree_depth_l1 N v_t1 N v_t2 (w64 ((v_t1.length : Int) - 1))

def tree_Check_j2 (N : Nat) (v_a1 : List Node) : Option (Int × (Option Int)) :=
  (tree_depth N v_a1).bind fun v_r32 =>
  if (decide (v_r32 > 10)) then (
    some (0, (some 4)))
  else (
    some (0, none))

def tree_Check_l1 (N : Nat) (v_t26 : List Int) (v_a1 : List Node) : Nat → Int → Option (Int × (Option Int))
  | 0, _ => none
  | n_1 + 1, v_t36 =>
    if (decide (v_t36 < (v_t26.length : Int))) then (
      (ix v_t26 v_t36).bind fun v_y37 =>
      if ((decide (v_t36 > 0)) && (v_y37 != 1)) then (
        some (v_t36, (some 7)))
      else (
        (tree_Check_l1 N v_t26 v_a1 n_1) (w64 (v_t36 + 1))))
    else (
      tree_Check_j2 N v_a1)

def tree_Check_j1 (N : Nat) (v_a1 : List Node) (v_t26 : List Int) : Option (Int × (Option Int)) :=
  tree_Check_l1 N v_t26 v_a1 N 0

def tree_Check_l2 (N : Nat) (v_a1 : List Node) (v_a2 : Int) : Nat → (List Int) → Int → Option (Int × (Option Int))
  | 0, _, _ => none
  | n_2 + 1, v_t52, v_t53 =>
    if (decide (v_t53 < (v_a1.length : Int))) then (
      (ix v_a1 v_t53).bind fun v_y54 =>
      (tree_node N v_a1 v_t53 v_a2).bind fun v_r55 =>
      if v_r55.isSome then (
        some (v_t53, v_r55))
      else (
        if (v_y54.feature != (-1)) then (
          (ix v_t52 v_y54.left).bind fun v_y56 =>
          (ix v_t52 v_y54.left).bind fun v_y57 =>
          (ix (v_t52.set v_y54.left.toNat (w64 (v_y56 + 1))) v_y54.right).bind fun v_y58 =>
          (ix (v_t52.set v_y54.left.toNat (w64 (v_y56 + 1))) v_y54.right).bind fun v_y59 =>
          (tree_Check_l2 N v_a1 v_a2 n_2) ((v_t52.set v_y54.left.toNat (w64 (v_y56 + 1))).set v_y54.right.toNat (w64 (v_y58 + 1))) (w64 (v_t53 + 1)))
        else (
          (tree_Check_l2 N v_a1 v_a2 n_2) v_t52 (w64 (v_t53 + 1)))))
    else (
      tree_Check_j1 N v_a1 v_t52)

def tree_Check (N : Nat) (v_a1 : List Node) (v_a2 : Int) : Option (Int × (Option Int)) :=
  if (decide ((v_a1.length : Int) > 63)) then (
    some (0, (some 4)))
  else (
    if ((v_a1.length : Int) == 0) then (
      some (0, (some 5)))
    else (
      if ((decide (v_a2 < 0)) || (decide (v_a2 > 8))) then (
        some (0, (some 1)))
      else (
        (mk (v_a1.length : Int) (0 : Int)).bind fun v_t3 =>
        tree_Check_l2 N v_a1 v_a2 N v_t3 0)))

def grow_Ready (N : Nat) (v_t1 : List Node) (v_l2 : List Sample) : Option (Option Int) :=
  if ((v_l2.length : Int) == 0) then (
    some (some 5))
  else (
    (ix v_l2 0).bind fun v_y3 =>
    (tree_Check N v_t1 (v_y3.row.length : Int)).bind fun v_r4 =>
    if v_r4.2.isSome then (
      some v_r4.2)
    else (
      (grow_Check N v_l2 (v_y3.row.length : Int)).bind fun v_r5 =>
      some v_r5.2))

def tree_Next (N : Nat) (v_n1 : Node) (v_c2 : Int) : Option Int :=
  if (((v_c2 == (-1125899906842624)) && v_n1.less) || ((v_c2 != (-1125899906842624)) && (decide (v_c2 < v_n1.cut)))) then (
    some v_n1.left)
  else (
    some v_n1.right)

def tree_Walk_j1 (N : Nat) (v_i20 : Int) : Option Int :=
  some v_i20

def tree_Walk_l1 (N : Nat) (v_t1 : List Node) (v_row2 : List Int) : Nat → Int → Option Int
  | 0, _ => none
  | n_1 + 1, v_i32 =>
    (ix v_t1 v_i32).bind fun v_y33 =>
    if (v_y33.feature != (-1)) then (
      (ix v_t1 v_i32).bind fun v_y34 =>
      (ix v_t1 v_i32).bind fun v_y35 =>
      (ix v_row2 v_y35.feature).bind fun v_y36 =>
      (tree_Next N v_y34 v_y36).bind fun v_r37 =>
      (tree_Walk_l1 N v_t1 v_row2 n_1) v_r37)
    else (
      tree_Walk_j1 N v_i32)

def tree_Walk (N : Nat) (v_t1 : List Node) (v_row2 : List Int) : Option Int :=
  tree_Walk_l1 N v_t1 v_row2 N 0

def grow_Wrong_j1 (N : Nat) (v_n20 : Int) : Option (Int × (Option Int)) :=
  some (v_n20, none)

def grow_Wrong_l1 (N : Nat) (v_l2 : List Sample) (v_t1 : List Node) : Nat → Int → Int → Option (Int × (Option Int))
  | 0, _, _ => none
  | n_1 + 1, v_n31, v_t32 =>
    if (decide (v_t32 < (v_l2.length : Int))) then (
      (ix v_l2 v_t32).bind fun v_y33 =>
      (tree_Walk N v_t1 v_y33.row).bind fun v_r34 =>
      (ix v_t1 v_r34).bind fun v_y35 =>
      (some (w64 ((w64 (v_y33.target - v_y35.value)) * (w64 (v_y33.target - v_y35.value))))).bind fun v_t36 =>
      (grow_Wrong_l1 N v_l2 v_t1 n_1) (w64 (v_n31 + v_t36)) (w64 (v_t32 + 1)))
    else (
      grow_Wrong_j1 N v_n31)

def grow_Wrong (N : Nat) (v_t1 : List Node) (v_l2 : List Sample) : Option (Int × (Option Int)) :=
  (grow_Ready N v_t1 v_l2).bind fun v_r3 =>
  if v_r3.isSome then (
    some (0, v_r3))
  else (
    grow_Wrong_l1 N v_l2 v_t1 N 0 0)

def orchlaw2_GrowTells_j5 (N : Nat) (v_a5 : List Node) (v_a1 : List Sample) (v_r22 : Int) (v_r15 : Bool) (v_r20 : Bool) (v_r21 : Bool) (v_r14 : Int × Int × (Option Int)) (v_t12 : Int) (v_t13 : Int) (v_t24 : Int) : Option Bool :=
  (grow_Wrong N v_a5 v_a1).bind fun v_r25 =>
  (orchsame_Error N v_r25.2 v_r22).bind fun v_r26 =>
  some ((((((v_r15 && v_r20) && v_r26) && v_r21) && (v_r14.1 == v_t12)) && (v_r14.2.1 == v_t13)) && (v_r25.1 == v_t24))

def orchlaw2_GrowTells_j4 (N : Nat) (v_a1 : List Sample) (v_a2 : Int) (v_a3 : Int) (v_a4 : Int) (v_t16 : Int) (v_a5 : List Node) (v_r15 : Bool) (v_r14 : Int × Int × (Option Int)) (v_t12 : Int) (v_t13 : Int) (v_t18 : List Node) : Option Bool :=
  (grow_Fit N v_a1 v_a2 v_a3 v_a4).bind fun v_r19 =>
  (orchsame_Error N v_r19.2 v_t16).bind fun v_r20 =>
  (orchsame_Nodes N v_r19.1 v_t18).bind fun v_r21 =>
  (orchref2_Ready N v_a5 v_a1).bind fun v_r22 =>
  if (v_r22 == 0) then (
    (orchref2_Wrong N v_a5 v_a1).bind fun v_r27 =>
    orchlaw2_GrowTells_j5 N v_a5 v_a1 v_r22 v_r15 v_r20 v_r21 v_r14 v_t12 v_t13 v_r27)
  else (
    orchlaw2_GrowTells_j5 N v_a5 v_a1 v_r22 v_r15 v_r20 v_r21 v_r14 v_t12 v_t13 0)

def orchlaw2_GrowTells_j3 (N : Nat) (v_a1 : List Sample) (v_a2 : Int) (v_a3 : Int) (v_a4 : Int) (v_a5 : List Node) (v_r15 : Bool) (v_r14 : Int × Int × (Option Int)) (v_t12 : Int) (v_t13 : Int) (v_t16 : Int) : Option Bool :=
  if (v_t16 == 0) then (
    (orchref2_Grow N [] v_a1 v_a2 v_a3 v_a4).bind fun v_r28 =>
    orchlaw2_GrowTells_j4 N v_a1 v_a2 v_a3 v_a4 v_t16 v_a5 v_r15 v_r14 v_t12 v_t13 v_r28)
  else (
    orchlaw2_GrowTells_j4 N v_a1 v_a2 v_a3 v_a4 v_t16 v_a5 v_r15 v_r14 v_t12 v_t13 [])

def orchlaw2_GrowTells_j2 (N : Nat) (v_a1 : List Sample) (v_a2 : Int) (v_a4 : Int) (v_r6 : Int × Int) (v_a3 : Int) (v_a5 : List Node) (v_t11 : Int) (v_t12 : Int) (v_t13 : Int) : Option Bool :=
  (grow_Split N v_a1 v_a2 v_a4).bind fun v_r14 =>
  (orchsame_Error N v_r14.2.2 v_t11).bind fun v_r15 =>
  if ((v_r6.2 == 0) && ((((decide (v_a3 < 0)) || (decide (v_a3 > 5))) || (decide (v_a4 < 1))) || (decide (v_a4 > 60)))) then (
    orchlaw2_GrowTells_j3 N v_a1 v_a2 v_a3 v_a4 v_a5 v_r15 v_r14 v_t12 v_t13 1)
  else (
    orchlaw2_GrowTells_j3 N v_a1 v_a2 v_a3 v_a4 v_a5 v_r15 v_r14 v_t12 v_t13 v_r6.2)

def orchlaw2_GrowTells_j1 (N : Nat) (v_a1 : List Sample) (v_a2 : Int) (v_a4 : Int) (v_r6 : Int × Int) (v_a3 : Int) (v_a5 : List Node) (v_t9 : Int) : Option Bool :=
  if (v_t9 == 0) then (
    (orchref2_Split N v_a1 v_a2 v_a4).bind fun v_r29 =>
    if v_r29.2.2 then (
      orchlaw2_GrowTells_j2 N v_a1 v_a2 v_a4 v_r6 v_a3 v_a5 v_t9 v_r29.1 v_r29.2.1)
    else (
      orchlaw2_GrowTells_j2 N v_a1 v_a2 v_a4 v_r6 v_a3 v_a5 5 0 0))
  else (
    orchlaw2_GrowTells_j2 N v_a1 v_a2 v_a4 v_r6 v_a3 v_a5 v_t9 0 0)

def orchlaw2_GrowTells (N : Nat) (v_a1 : List Sample) (v_a2 : Int) (v_a3 : Int) (v_a4 : Int) (v_a5 : List Node) : Option Bool :=
  (orchref2_Samples N v_a1 v_a2).bind fun v_r6 =>
  (grow_Check N v_a1 v_a2).bind fun v_r7 =>
  (orchsame_Error N v_r7.2 v_r6.2).bind fun v_r8 =>
  if ((!v_r8) || (v_r7.1 != v_r6.1)) then (
    some false)
  else (
    if ((v_r6.2 == 0) && ((decide (v_a4 < 1)) || (decide (v_a4 > 60)))) then (
      orchlaw2_GrowTells_j1 N v_a1 v_a2 v_a4 v_r6 v_a3 v_a5 1)
    else (
      orchlaw2_GrowTells_j1 N v_a1 v_a2 v_a4 v_r6 v_a3 v_a5 v_r6.2))

end Go.Dl
