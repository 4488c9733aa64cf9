/- Printed by wip/gen: the calls compute it. -/
import Derived.Test.YtbalmknhjokgaaaDoorDW2
set_option linter.unusedVariables false
set_option maxRecDepth 4000
set_option maxHeartbeats 2000000
namespace Go.Dl
open Go

theorem f139_fn (N : Nat) (v_n1 : Node) (v_c2 : Int) (r : Bool) (h : orchref1_Left N v_n1 v_c2 = some r) : Fn Go.Proofs.Tryd.prog 139 [.agg (cNode v_n1), I v_c2] [] (B r) [] := by
  unfold orchref1_Left at h
  refine fn_intro [] fun139 rfl rfl (Nat.le_of_ble_eq_true rfl) rfl rfl (fun w G V => ?_)
  show Cw _ _ _ _ [(0, .agg (cNode v_n1)), (1, I v_c2)] []
  refine cw_seq fun K1 hK1 => ?_
  refine cw_region ?_
  refine nx_o (op_box (its := (cNode v_n1)) (.agg (.tmp 0 rfl))) rfl ?_
  refine nx_o (op_assign (Can.bool _ _)) rfl ?_
  refine nx_nil ?_
  refine Says.ex (S' := [(2, .ptr (cNode v_n1)), (1, I v_c2)]) (O' := []) (says_pick [1, 3] [] rfl rfl) ?_
  refine ex_kx (hK1 _ _ ?_)
  refine cw_seq fun K2 hK2 => ?_
  refine cw_region ?_
  refine nx_o (op_move (.tmp 1 rfl)) rfl ?_
  obtain ⟨v_r3, hv_r3, h⟩ := bnd h
  refine nx_o (op_call0 (show Fn Go.Proofs.Tryd.prog 124 [I v_c2] [] (B v_r3) [] from (f124_fn N v_c2 _ hv_r3)) c124 (.cons (.tmp 0 rfl) .nil)) rfl ?_
  refine nx_o (op_assign (.tmp 0 rfl)) rfl ?_
  refine nx_nil ?_
  refine Says.ex (S' := [(5, B v_r3), (2, .ptr (cNode v_n1)), (1, I v_c2)]) (O' := []) (says_pick [0, 3, 4] [] rfl rfl) ?_
  refine ex_kx (hK2 _ _ ?_)
  refine cw_seq fun K3 hK3 => ?_
  refine cw_seq fun K4 hK4 => ?_
  refine cw_region ?_
  refine nx_o (op_move (.tmp 0 rfl)) rfl ?_
  refine nx_nil ?_
  refine Says.ex (S' := [(8, B v_r3), (2, .ptr (cNode v_n1)), (1, I v_c2)]) (O' := []) (says_pick [0, 2, 3] [] rfl rfl) ?_
  refine ex_kx (hK4 _ _ ?_)
  refine cw_cond (b := v_r3) (.tmp 0 rfl) (fun hc => ?_) (fun hc => ?_)
  · have h := ite_t hc h
    refine cw_seq fun K5 hK5 => ?_
    refine cw_region ?_
    refine nx_o (op_field (.tmp 1 rfl) o28_4) rfl ?_
    refine nx_o (op_load1 (.tmp 0 rfl) a4) rfl ?_
    refine nx_o (op_assign (.tmp 0 rfl)) rfl ?_
    refine nx_nil ?_
    refine Says.ex (S' := [(4, B v_n1.less)]) (O' := []) (says_pick [0] [] rfl rfl) ?_
    refine ex_kx (hK5 _ _ ?_)
    refine cw_ret ?_
    refine ex_tr ?_
    cases h
    exact ex_done (.inl rfl) rfl (fun a w G V hs _ hS => res1 rfl (.tmp 0 rfl) a w G V hS)
  · have h := ite_f hc h
    refine cw_skip ?_
    refine ex_kx (hK3 _ _ ?_)
    refine cw_seq fun K6 hK6 => ?_
    refine cw_region ?_
    refine nx_o (op_move (.tmp 2 rfl)) rfl ?_
    refine nx_o (op_field (.tmp 2 rfl) o28_1) rfl ?_
    refine nx_o (op_load1 (.tmp 0 rfl) a3) rfl ?_
    refine nx_o (op_lss (.tmp 2 rfl) (.tmp 0 rfl)) rfl ?_
    refine nx_o (op_assign (.tmp 0 rfl)) rfl ?_
    refine nx_nil ?_
    refine Says.ex (S' := [(4, B (decide (v_c2 < v_n1.cut)))]) (O' := []) (says_pick [0] [] rfl rfl) ?_
    refine ex_kx (hK6 _ _ ?_)
    refine cw_ret ?_
    cases h
    exact ex_done (.inl rfl) rfl (fun a w G V hs _ hS => res1 rfl (.tmp 0 rfl) a w G V hS)

theorem f86_fn (N : Nat) (v_t1 : List Node) (v_row2 : List Int) (r : Int × (List Int)) (h : orchref1_Leaf N v_t1 v_row2 = some r) : Fn Go.Proofs.Tryd.prog 86 [SL 6 cNode v_t1, SL 1 cI v_row2] [] (.tup [I r.1, SL 1 cI r.2]) [] := by
  unfold orchref1_Leaf at h
  refine fn_intro [] fun86 rfl rfl (Nat.le_of_ble_eq_true rfl) rfl rfl (fun w G V => ?_)
  show Cw _ _ _ _ [(0, SL 6 cNode v_t1), (1, SL 1 cI v_row2)] []
  refine cw_seq fun K1 hK1 => ?_
  refine cw_region ?_
  refine nx_o (op_assign (Can.int _ _ _)) rfl ?_
  refine nx_o (op_assign (Can.raw _ _)) rfl ?_
  refine nx_nil ?_
  refine Says.ex (S' := [(0, SL 6 cNode v_t1), (1, SL 1 cI v_row2)]) (O' := []) (says_pick [2, 3] [] rfl rfl) ?_
  refine ex_kx (hK1 _ _ ?_)
  refine cw_seq fun K2 hK2 => ?_
  refine cw_region ?_
  refine nx_o (op_assign (Can.int _ _ _)) rfl ?_
  refine nx_nil ?_
  refine ex_kx (hK2 _ _ ?_)
  refine cw_seq fun K3 hK3 => ?_
  refine cw_region ?_
  refine nx_op (op_buildRow 101 (cI 0) (n := 1) (c := cI) ([0] : List Int) bl22 zI (by decide) (by decide) (by decide) (.cons (.c (Can.int _ _ _)) rfl (Nat.le_of_ble_eq_true rfl) .nil) rfl rfl (fun _ => rfl) rfl) rfl ?_
  show Nx _ _ _ _ _ [(9, .ref 101), (6, I 0), (0, SL 6 cNode v_t1), (1, SL 1 cI v_row2)] [(101, .row 3 1 cI [0])]
  refine nx_o (op_assign (.tmp 0 rfl)) rfl ?_
  refine nx_nil ?_
  refine Says.ex (S' := [(7, .ref 101), (6, I 0), (0, SL 6 cNode v_t1), (1, SL 1 cI v_row2)]) (O' := [(101, .row 3 1 cI [0])]) (says_pick [0, 2, 3, 4] [0] rfl rfl) ?_
  refine ex_kx (hK3 _ _ ?_)
  refine cw_join (fun S O => ∃ (v_at34 : Int) (v_way35 : List Int), orchref1_Leaf_j1 N v_at34 v_way35 = some r ∧ S = [(6, I v_at34), (7, .ref 101)] ∧ O = [(101, .row 3 1 cI v_way35)]) ?_ (fun K21 hK21 => ?_)
  · rintro S O ⟨v_at34, v_way35, h, rfl, rfl⟩
    unfold orchref1_Leaf_j1 at h
    refine cw_seq fun K22 hK22 => ?_
    refine cw_region ?_
    refine nx_o (op_move (.tmp 0 rfl)) rfl ?_
    refine nx_o (op_move (.tmp 2 rfl)) rfl ?_
    refine nx_o (op_assign (.tmp 1 rfl)) rfl ?_
    refine nx_o (op_assign (.tmp 1 rfl)) rfl ?_
    refine nx_nil ?_
    refine Says.ex (S' := [(5, .ref 101), (4, I v_at34)]) (O' := [(101, .row 3 1 cI v_way35)]) (says_pick [0, 1] [0] rfl rfl) ?_
    refine ex_kx (hK22 _ _ ?_)
    refine cw_ret ?_
    refine Says.ex (says_freezeRow (k := 101) 0 rfl rfl (fun _ => rfl) rfl rfl) ?_
    show Ex _ _ _ [(5, SL 1 cI v_way35), (4, I v_at34)] []
    cases h
    refine Says.ex (S' := [(4, I v_at34), (5, SL 1 cI v_way35)]) (O' := []) (says_pick [1, 0] [] rfl rfl) ?_
    exact ex_done (.inl rfl) rfl (fun a w G V hs _ hS => resM rfl (.tmp (.tmp 0 rfl) (.tmp (.tmp 1 rfl) .nil)) a w G V hs hS)
  ·
    refine cw_block ?_
    refine Says.cw (S' := [(0, SL 6 cNode v_t1), (1, SL 1 cI v_row2), (6, I 0), (7, .ref 101)]) (O' := [(101, .row 3 1 cI [0])]) (says_pick [2, 3, 1, 0] [0] rfl rfl) ?_
    refine cw_loopJ (fun n S O => ∃ (v_at56 : Int) (v_way57 : List Int), orchref1_Leaf_l1 N v_t1 v_row2 n v_at56 v_way57 = some r ∧ S = [(0, SL 6 cNode v_t1), (1, SL 1 cI v_row2), (6, I v_at56), (7, .ref 101)] ∧ O = [(101, .row 3 1 cI v_way57)]) ?_ ?_ N ⟨0, [0], h, rfl, rfl⟩
    · rintro S O ⟨v_at56, v_way57, h, -, -⟩
      simp [orchref1_Leaf_l1] at h
    · rintro n_1 S O ⟨v_at56, v_way57, h, rfl, rfl⟩ K33 hK33
      rw [orchref1_Leaf_l1] at h
      refine cw_seq fun K34 hK34 => ?_
      refine cw_seq fun K35 hK35 => ?_
      refine cw_region ?_
      refine nx_o (op_move (.tmp 0 rfl)) rfl ?_
      refine nx_o (op_move (.tmp 3 rfl)) rfl ?_
      obtain ⟨v_y58, hv_y58, h⟩ := bnd h
      refine nx_o (op_indexX hv_y58 (.tmp 1 rfl) (.tmp 0 rfl) u29 s28) rfl ?_
      refine nx_o (op_field (.tmp 0 rfl) o28_0) rfl ?_
      refine nx_o (op_load1 (.tmp 0 rfl) a3) rfl ?_
      refine nx_o (op_neq (.tmp 0 rfl) (Can.int _ _ _)) rfl ?_
      refine nx_nil ?_
      refine Says.ex (S' := [(15, B (v_y58.feature != (-1))), (0, SL 6 cNode v_t1), (1, SL 1 cI v_row2), (6, I v_at56), (7, .ref 101)]) (O' := [(101, .row 3 1 cI v_way57)]) (says_pick [0, 6, 7, 8, 9] [0] rfl rfl) ?_
      refine ex_kx (hK35 _ _ ?_)
      refine cw_cond (b := (v_y58.feature != (-1))) (.tmp 0 rfl) (fun hc => ?_) (fun hc => ?_)
      · have h := ite_t hc h
        refine cw_skip ?_
        refine ex_kx (hK34 _ _ ?_)
        refine cw_block ?_
        refine cw_seq fun K36 hK36 => ?_
        obtain ⟨v_y59, hv_y59, h⟩ := bnd h
        obtain ⟨v_y60, hv_y60, h⟩ := bnd h
        obtain ⟨v_y61, hv_y61, h⟩ := bnd h
        obtain ⟨v_r62, hv_r62, h⟩ := bnd h
        refine cw_draw (Plan.mk [] [[], [], [0, 1], [0, 1, 2], [], [], [], [5, 6], [5, 6, 7], [5, 6, 7, 8], [4, 5, 6, 7, 8, 9], [4, 5, 6, 7, 8, 9, 10], [0, 1, 2, 3, 4, 5, 6, 7, 8, 9, 10, 11], [0, 1, 2, 3, 4, 5, 6, 7, 8, 9, 10, 11, 12]] [[(15, B (v_y58.feature != (-1))), (0, SL 6 cNode v_t1), (1, SL 1 cI v_row2), (6, I v_at56), (7, .ref 101)]] [[(101, .row 3 1 cI v_way57)]] [(16, SL 6 cNode v_t1), (17, I v_at56), (18, .ptr (cNode v_y59)), (19, .agg (cNode v_y59)), (20, SL 1 cI v_row2), (21, SL 6 cNode v_t1), (22, I v_at56), (23, .ptr (cNode v_y60)), (24, .ptr ((cNode v_y60).drop 0)), (25, I v_y60.feature), (26, .ptr (cI v_y61)), (27, I v_y61), (28, B v_r62), (8, B v_r62)]) mixed rfl rfl rfl rfl ?_ ?_ ?_
        · exact (And.intro (fun _ => (And.intro (show OpY _ _ _ [(15, B (v_y58.feature != (-1))), (0, SL 6 cNode v_t1), (1, SL 1 cI v_row2), (6, I v_at56), (7, .ref 101)] [(101, .row 3 1 cI v_way57)] _ (SL 6 cNode v_t1) [(101, .row 3 1 cI v_way57)] allp from (OpX.y (op_move (.tmp 1 rfl)) rfl)) trivial)) (And.intro (fun _ => (And.intro (show OpY _ _ _ [(15, B (v_y58.feature != (-1))), (0, SL 6 cNode v_t1), (1, SL 1 cI v_row2), (6, I v_at56), (7, .ref 101)] [(101, .row 3 1 cI v_way57)] _ (I v_at56) [(101, .row 3 1 cI v_way57)] allp from (OpX.y (op_move (.tmp 3 rfl)) rfl)) trivial)) (And.intro (fun _ => (And.intro (show OpY _ _ _ [(15, B (v_y58.feature != (-1))), (0, SL 6 cNode v_t1), (1, SL 1 cI v_row2), (6, I v_at56), (7, .ref 101), (16, SL 6 cNode v_t1), (17, I v_at56)] [(101, .row 3 1 cI v_way57)] _ (.ptr (cNode v_y59)) [(101, .row 3 1 cI v_way57)] allp from (OpX.y (op_indexX hv_y59 (.tmp 5 rfl) (.tmp 6 rfl) u29 s28) rfl)) trivial)) (And.intro (fun _ => (And.intro (show OpY _ _ _ [(15, B (v_y58.feature != (-1))), (0, SL 6 cNode v_t1), (1, SL 1 cI v_row2), (6, I v_at56), (7, .ref 101), (16, SL 6 cNode v_t1), (17, I v_at56), (18, .ptr (cNode v_y59))] [(101, .row 3 1 cI v_way57)] _ (.agg (cNode v_y59)) [(101, .row 3 1 cI v_way57)] allp from (OpX.y (op_loadA (cNode v_y59) (.tmp 7 rfl) a28 s28 rfl) rfl)) trivial)) (And.intro (fun _ => (And.intro (show OpY _ _ _ [(15, B (v_y58.feature != (-1))), (0, SL 6 cNode v_t1), (1, SL 1 cI v_row2), (6, I v_at56), (7, .ref 101)] [(101, .row 3 1 cI v_way57)] _ (SL 1 cI v_row2) [(101, .row 3 1 cI v_way57)] allp from (OpX.y (op_move (.tmp 2 rfl)) rfl)) trivial)) (And.intro (fun _ => (And.intro (show OpY _ _ _ [(15, B (v_y58.feature != (-1))), (0, SL 6 cNode v_t1), (1, SL 1 cI v_row2), (6, I v_at56), (7, .ref 101)] [(101, .row 3 1 cI v_way57)] _ (SL 6 cNode v_t1) [(101, .row 3 1 cI v_way57)] allp from (OpX.y (op_move (.tmp 1 rfl)) rfl)) trivial)) (And.intro (fun _ => (And.intro (show OpY _ _ _ [(15, B (v_y58.feature != (-1))), (0, SL 6 cNode v_t1), (1, SL 1 cI v_row2), (6, I v_at56), (7, .ref 101)] [(101, .row 3 1 cI v_way57)] _ (I v_at56) [(101, .row 3 1 cI v_way57)] allp from (OpX.y (op_move (.tmp 3 rfl)) rfl)) trivial)) (And.intro (fun _ => (And.intro (show OpY _ _ _ [(15, B (v_y58.feature != (-1))), (0, SL 6 cNode v_t1), (1, SL 1 cI v_row2), (6, I v_at56), (7, .ref 101), (21, SL 6 cNode v_t1), (22, I v_at56)] [(101, .row 3 1 cI v_way57)] _ (.ptr (cNode v_y60)) [(101, .row 3 1 cI v_way57)] allp from (OpX.y (op_indexX hv_y60 (.tmp 5 rfl) (.tmp 6 rfl) u29 s28) rfl)) trivial)) (And.intro (fun _ => (And.intro (show OpY _ _ _ [(15, B (v_y58.feature != (-1))), (0, SL 6 cNode v_t1), (1, SL 1 cI v_row2), (6, I v_at56), (7, .ref 101), (21, SL 6 cNode v_t1), (22, I v_at56), (23, .ptr (cNode v_y60))] [(101, .row 3 1 cI v_way57)] _ (.ptr ((cNode v_y60).drop 0)) [(101, .row 3 1 cI v_way57)] allp from (OpX.y (op_field (.tmp 7 rfl) o28_0) rfl)) trivial)) (And.intro (fun _ => (And.intro (show OpY _ _ _ [(15, B (v_y58.feature != (-1))), (0, SL 6 cNode v_t1), (1, SL 1 cI v_row2), (6, I v_at56), (7, .ref 101), (21, SL 6 cNode v_t1), (22, I v_at56), (23, .ptr (cNode v_y60)), (24, .ptr ((cNode v_y60).drop 0))] [(101, .row 3 1 cI v_way57)] _ (I v_y60.feature) [(101, .row 3 1 cI v_way57)] allp from (OpX.y (op_load1 (.tmp 8 rfl) a3) rfl)) trivial)) (And.intro (fun _ => (And.intro (show OpY _ _ _ [(15, B (v_y58.feature != (-1))), (0, SL 6 cNode v_t1), (1, SL 1 cI v_row2), (6, I v_at56), (7, .ref 101), (20, SL 1 cI v_row2), (21, SL 6 cNode v_t1), (22, I v_at56), (23, .ptr (cNode v_y60)), (24, .ptr ((cNode v_y60).drop 0)), (25, I v_y60.feature)] [(101, .row 3 1 cI v_way57)] _ (.ptr (cI v_y61)) [(101, .row 3 1 cI v_way57)] allp from (OpX.y (op_indexX hv_y61 (.tmp 5 rfl) (.tmp 10 rfl) u22 s3) rfl)) trivial)) (And.intro (fun _ => (And.intro (show OpY _ _ _ [(15, B (v_y58.feature != (-1))), (0, SL 6 cNode v_t1), (1, SL 1 cI v_row2), (6, I v_at56), (7, .ref 101), (20, SL 1 cI v_row2), (21, SL 6 cNode v_t1), (22, I v_at56), (23, .ptr (cNode v_y60)), (24, .ptr ((cNode v_y60).drop 0)), (25, I v_y60.feature), (26, .ptr (cI v_y61))] [(101, .row 3 1 cI v_way57)] _ (I v_y61) [(101, .row 3 1 cI v_way57)] allp from (OpX.y (op_load1 (.tmp 11 rfl) a3) rfl)) trivial)) (And.intro (fun _ => (And.intro (show OpY _ _ _ [(15, B (v_y58.feature != (-1))), (0, SL 6 cNode v_t1), (1, SL 1 cI v_row2), (6, I v_at56), (7, .ref 101), (16, SL 6 cNode v_t1), (17, I v_at56), (18, .ptr (cNode v_y59)), (19, .agg (cNode v_y59)), (20, SL 1 cI v_row2), (21, SL 6 cNode v_t1), (22, I v_at56), (23, .ptr (cNode v_y60)), (24, .ptr ((cNode v_y60).drop 0)), (25, I v_y60.feature), (26, .ptr (cI v_y61)), (27, I v_y61)] [(101, .row 3 1 cI v_way57)] _ (B v_r62) [(101, .row 3 1 cI v_way57)] allp from (OpX.y (op_call0 (show Fn Go.Proofs.Tryd.prog 139 [.agg (cNode v_y59), I v_y61] [] (B v_r62) [] from (f139_fn N v_y59 v_y61 _ hv_r62)) c139 (.cons (.tmp 8 rfl) (.cons (.tmp 16 rfl) .nil))) rfl)) trivial)) (And.intro (fun _ => (And.intro (show OpY _ _ _ [(15, B (v_y58.feature != (-1))), (0, SL 6 cNode v_t1), (1, SL 1 cI v_row2), (6, I v_at56), (7, .ref 101), (16, SL 6 cNode v_t1), (17, I v_at56), (18, .ptr (cNode v_y59)), (19, .agg (cNode v_y59)), (20, SL 1 cI v_row2), (21, SL 6 cNode v_t1), (22, I v_at56), (23, .ptr (cNode v_y60)), (24, .ptr ((cNode v_y60).drop 0)), (25, I v_y60.feature), (26, .ptr (cI v_y61)), (27, I v_y61), (28, B v_r62)] [(101, .row 3 1 cI v_way57)] _ (B v_r62) [(101, .row 3 1 cI v_way57)] allp from (OpX.y (op_assign (.tmp 17 rfl)) rfl)) trivial)) trivial))))))))))))))
        · exact trivial
        show Ex _ _ _ [(15, B (v_y58.feature != (-1))), (0, SL 6 cNode v_t1), (1, SL 1 cI v_row2), (6, I v_at56), (7, .ref 101), (16, SL 6 cNode v_t1), (17, I v_at56), (18, .ptr (cNode v_y59)), (19, .agg (cNode v_y59)), (20, SL 1 cI v_row2), (21, SL 6 cNode v_t1), (22, I v_at56), (23, .ptr (cNode v_y60)), (24, .ptr ((cNode v_y60).drop 0)), (25, I v_y60.feature), (26, .ptr (cI v_y61)), (27, I v_y61), (28, B v_r62), (8, B v_r62)] [(101, .row 3 1 cI v_way57)]
        refine Says.ex (S' := [(0, SL 6 cNode v_t1), (1, SL 1 cI v_row2), (6, I v_at56), (7, .ref 101), (8, B v_r62)]) (O' := [(101, .row 3 1 cI v_way57)]) (says_pick [1, 2, 3, 4, 18] [0] rfl rfl) ?_
        refine ex_kx (hK36 _ _ ?_)
        refine cw_seq fun K37 hK37 => ?_
        refine cw_seq fun K38 hK38 => ?_
        refine cw_region ?_
        refine nx_o (op_move (.tmp 4 rfl)) rfl ?_
        refine nx_nil ?_
        refine Says.ex (S' := [(29, B v_r62), (0, SL 6 cNode v_t1), (1, SL 1 cI v_row2), (6, I v_at56), (7, .ref 101)]) (O' := [(101, .row 3 1 cI v_way57)]) (says_pick [0, 1, 2, 3, 4] [0] rfl rfl) ?_
        refine ex_kx (hK38 _ _ ?_)
        refine cw_cond (b := v_r62) (.tmp 0 rfl) (fun hc => ?_) (fun hc => ?_)
        · have h := ite_t hc h
          refine cw_region ?_
          refine nx_o (op_move (.tmp 1 rfl)) rfl ?_
          refine nx_o (op_move (.tmp 4 rfl)) rfl ?_
          obtain ⟨v_y63, hv_y63, h⟩ := bnd h
          refine nx_o (op_indexX hv_y63 (.tmp 1 rfl) (.tmp 0 rfl) u29 s28) rfl ?_
          refine nx_o (op_field (.tmp 0 rfl) o28_2) rfl ?_
          refine nx_o (op_load1 (.tmp 0 rfl) a3) rfl ?_
          refine nx_k [0, 1, 2, 3, 4, 5, 6, 7, 9] (op_assign (.tmp 0 rfl)) rfl rfl ?_
          show Nx _ _ _ _ _ [(6, I v_y63.left), (34, I v_y63.left), (33, .ptr ((cNode v_y63).drop 2)), (32, .ptr (cNode v_y63)), (31, I v_at56), (30, SL 6 cNode v_t1), (29, B v_r62), (0, SL 6 cNode v_t1), (1, SL 1 cI v_row2), (7, .ref 101)] [(101, .row 3 1 cI v_way57)]
          refine nx_nil ?_
          refine Says.ex (S' := [(6, I v_y63.left), (0, SL 6 cNode v_t1), (1, SL 1 cI v_row2), (7, .ref 101)]) (O' := [(101, .row 3 1 cI v_way57)]) (says_pick [0, 7, 8, 9] [0] rfl rfl) ?_
          refine ex_kx (hK37 _ _ ?_)
          refine cw_region ?_
          refine nx_o (op_move (.tmp 3 rfl)) rfl ?_
          refine nx_o (op_move (.tmp 1 rfl)) rfl ?_
          refine nx_o (op_buildSlice (cI 0) (n := 1) (c := cI) ([v_y63.left] : List Int) bl22 zI (by decide) (by decide) (.cons (.c (.tmp 0 rfl)) rfl (Nat.le_of_ble_eq_true rfl) .nil) rfl rfl (fun _ => rfl)) rfl ?_
          obtain ⟨v_t64, hv_t64, h⟩ := bnd h
          refine nx_k [0, 1, 3, 4, 5] (op_appendX hv_t64 112 (.tmp 2 rfl) 0 rfl (.tmp 0 rfl) u22 i3 (by decide) (by decide) (fun _ => rfl) rfl rfl) rfl rfl ?_
          show Nx _ _ _ _ _ [(43, .ref 112), (42, SL 1 cI [v_y63.left]), (41, I v_y63.left), (6, I v_y63.left), (0, SL 6 cNode v_t1), (1, SL 1 cI v_row2)] [(112, .row 3 1 cI v_t64)]
          refine nx_o (op_assign (.tmp 0 rfl)) rfl ?_
          refine nx_nil ?_
          refine Says.ex (S' := [(7, .ref 112), (6, I v_y63.left), (0, SL 6 cNode v_t1), (1, SL 1 cI v_row2)]) (O' := [(112, .row 3 1 cI v_t64)]) (says_pick [0, 4, 5, 6] [0] rfl rfl) ?_
          refine ex_bn ?_
          refine ex_kx ?_
          refine Says.kx (S' := [(0, SL 6 cNode v_t1), (1, SL 1 cI v_row2), (6, I v_y63.left), (7, .ref 112)]) (O' := [(112, .row 3 1 cI v_t64)]) (says_pick [2, 3, 1, 0] [0] rfl rfl) ?_
          refine Says.kx (says_swap 112 101 rfl rfl rfl rfl) ?_
          exact hK33 _ _ ⟨v_y63.left, v_t64, h, rfl, rfl⟩
        · have h := ite_f hc h
          refine cw_region ?_
          refine nx_o (op_move (.tmp 1 rfl)) rfl ?_
          refine nx_o (op_move (.tmp 4 rfl)) rfl ?_
          obtain ⟨v_y65, hv_y65, h⟩ := bnd h
          refine nx_o (op_indexX hv_y65 (.tmp 1 rfl) (.tmp 0 rfl) u29 s28) rfl ?_
          refine nx_o (op_field (.tmp 0 rfl) o28_3) rfl ?_
          refine nx_o (op_load1 (.tmp 0 rfl) a3) rfl ?_
          refine nx_k [0, 1, 2, 3, 4, 5, 6, 7, 9] (op_assign (.tmp 0 rfl)) rfl rfl ?_
          show Nx _ _ _ _ _ [(6, I v_y65.right), (39, I v_y65.right), (38, .ptr ((cNode v_y65).drop 3)), (37, .ptr (cNode v_y65)), (36, I v_at56), (35, SL 6 cNode v_t1), (29, B v_r62), (0, SL 6 cNode v_t1), (1, SL 1 cI v_row2), (7, .ref 101)] [(101, .row 3 1 cI v_way57)]
          refine nx_nil ?_
          refine Says.ex (S' := [(6, I v_y65.right), (0, SL 6 cNode v_t1), (1, SL 1 cI v_row2), (7, .ref 101)]) (O' := [(101, .row 3 1 cI v_way57)]) (says_pick [0, 7, 8, 9] [0] rfl rfl) ?_
          refine ex_kx (hK37 _ _ ?_)
          refine cw_region ?_
          refine nx_o (op_move (.tmp 3 rfl)) rfl ?_
          refine nx_o (op_move (.tmp 1 rfl)) rfl ?_
          refine nx_o (op_buildSlice (cI 0) (n := 1) (c := cI) ([v_y65.right] : List Int) bl22 zI (by decide) (by decide) (.cons (.c (.tmp 0 rfl)) rfl (Nat.le_of_ble_eq_true rfl) .nil) rfl rfl (fun _ => rfl)) rfl ?_
          obtain ⟨v_t66, hv_t66, h⟩ := bnd h
          refine nx_k [0, 1, 3, 4, 5] (op_appendX hv_t66 113 (.tmp 2 rfl) 0 rfl (.tmp 0 rfl) u22 i3 (by decide) (by decide) (fun _ => rfl) rfl rfl) rfl rfl ?_
          show Nx _ _ _ _ _ [(43, .ref 113), (42, SL 1 cI [v_y65.right]), (41, I v_y65.right), (6, I v_y65.right), (0, SL 6 cNode v_t1), (1, SL 1 cI v_row2)] [(113, .row 3 1 cI v_t66)]
          refine nx_o (op_assign (.tmp 0 rfl)) rfl ?_
          refine nx_nil ?_
          refine Says.ex (S' := [(7, .ref 113), (6, I v_y65.right), (0, SL 6 cNode v_t1), (1, SL 1 cI v_row2)]) (O' := [(113, .row 3 1 cI v_t66)]) (says_pick [0, 4, 5, 6] [0] rfl rfl) ?_
          refine ex_bn ?_
          refine ex_kx ?_
          refine Says.kx (S' := [(0, SL 6 cNode v_t1), (1, SL 1 cI v_row2), (6, I v_y65.right), (7, .ref 113)]) (O' := [(113, .row 3 1 cI v_t66)]) (says_pick [2, 3, 1, 0] [0] rfl rfl) ?_
          refine Says.kx (says_swap 113 101 rfl rfl rfl rfl) ?_
          exact hK33 _ _ ⟨v_y65.right, v_t66, h, rfl, rfl⟩
      · have h := ite_f hc h
        refine cw_exit ?_
        refine ex_te ?_
        refine ex_te ?_
        refine ex_be ?_
        refine ex_kx ?_
        refine Says.kx (S' := [(6, I v_at56), (7, .ref 101)]) (O' := [(101, .row 3 1 cI v_way57)]) (says_pick [3, 4] [0] rfl rfl) ?_
        exact hK21 _ _ ⟨v_at56, v_way57, h, rfl, rfl⟩

theorem f104_fn (N : Nat) (v_t1 : List Node) (v_row2 : List Int) (r : Int) (h : orchref2_Value N v_t1 v_row2 = some r) : Fn Go.Proofs.Tryd.prog 104 [SL 6 cNode v_t1, SL 1 cI v_row2] [] (I r) [] := by
  unfold orchref2_Value at h
  refine fn_intro [] fun104 rfl rfl (Nat.le_of_ble_eq_true rfl) rfl rfl (fun w G V => ?_)
  show Cw _ _ _ _ [(0, SL 6 cNode v_t1), (1, SL 1 cI v_row2)] []
  refine cw_seq fun K1 hK1 => ?_
  refine cw_region ?_
  refine nx_o (op_assign (Can.int _ _ _)) rfl ?_
  refine nx_nil ?_
  refine Says.ex (S' := [(0, SL 6 cNode v_t1), (1, SL 1 cI v_row2)]) (O' := []) (says_pick [1, 2] [] rfl rfl) ?_
  refine ex_kx (hK1 _ _ ?_)
  refine cw_seq fun K2 hK2 => ?_
  refine cw_region ?_
  refine nx_o (op_move (.tmp 0 rfl)) rfl ?_
  refine nx_o (op_move (.tmp 2 rfl)) rfl ?_
  obtain ⟨v_r3, hv_r3, h⟩ := bnd h
  refine nx_o (op_call0 (show Fn Go.Proofs.Tryd.prog 86 [SL 6 cNode v_t1, SL 1 cI v_row2] [] (.tup [I v_r3.1, SL 1 cI v_r3.2]) [] from (f86_fn N v_t1 v_row2 _ hv_r3)) c86 (.cons (.tmp 1 rfl) (.cons (.tmp 0 rfl) .nil))) rfl ?_
  refine nx_o (op_move (.tmp 0 rfl)) rfl ?_
  refine nx_o (op_extract (.tmp 0 rfl) rfl) rfl ?_
  refine nx_o (op_extract (.tmp 1 rfl) rfl) rfl ?_
  refine nx_o (op_assign (.tmp 1 rfl)) rfl ?_
  refine nx_o (op_assign (.tmp 1 rfl)) rfl ?_
  refine nx_nil ?_
  refine Says.ex (S' := [(5, I v_r3.1), (0, SL 6 cNode v_t1)]) (O' := []) (says_pick [1, 8] [] rfl rfl) ?_
  refine ex_kx (hK2 _ _ ?_)
  refine cw_seq fun K3 hK3 => ?_
  refine cw_region ?_
  refine nx_o (op_move (.tmp 1 rfl)) rfl ?_
  refine nx_o (op_move (.tmp 1 rfl)) rfl ?_
  obtain ⟨v_y4, hv_y4, h⟩ := bnd h
  refine nx_o (op_indexX hv_y4 (.tmp 1 rfl) (.tmp 0 rfl) u29 s28) rfl ?_
  refine nx_o (op_field (.tmp 0 rfl) o28_5) rfl ?_
  refine nx_o (op_load1 (.tmp 0 rfl) a3) rfl ?_
  refine nx_o (op_assign (.tmp 0 rfl)) rfl ?_
  refine nx_nil ?_
  refine Says.ex (S' := [(4, I v_y4.value)]) (O' := []) (says_pick [0] [] rfl rfl) ?_
  refine ex_kx (hK3 _ _ ?_)
  refine cw_ret ?_
  cases h
  exact ex_done (.inl rfl) rfl (fun a w G V hs _ hS => res1 rfl (.tmp 0 rfl) a w G V hS)

theorem f48_fn (N : Nat) (v_t1 : List Node) (v_l2 : List Sample) (r : Int) (h : orchref2_Wrong N v_t1 v_l2 = some r) : Fn Go.Proofs.Tryd.prog 48 [SL 6 cNode v_t1, SL 2 cSample v_l2] [] (I r) [] := by
  unfold orchref2_Wrong at h
  refine fn_intro [] fun48 rfl rfl (Nat.le_of_ble_eq_true rfl) rfl rfl (fun w G V => ?_)
  show Cw _ _ _ _ [(0, SL 6 cNode v_t1), (1, SL 2 cSample v_l2)] []
  refine cw_seq fun K1 hK1 => ?_
  refine cw_region ?_
  refine nx_o (op_assign (Can.int _ _ _)) rfl ?_
  refine nx_nil ?_
  refine Says.ex (S' := [(0, SL 6 cNode v_t1), (1, SL 2 cSample v_l2)]) (O' := []) (says_pick [1, 2] [] rfl rfl) ?_
  refine ex_kx (hK1 _ _ ?_)
  refine cw_seq fun K2 hK2 => ?_
  refine cw_region ?_
  refine nx_o (op_assign (Can.int _ _ _)) rfl ?_
  refine nx_nil ?_
  refine ex_kx (hK2 _ _ ?_)
  refine cw_join (fun S O => ∃ (v_n19 : Int), orchref2_Wrong_j1 N v_n19 = some r ∧ S = [(5, I v_n19)] ∧ O = []) ?_ (fun K18 hK18 => ?_)
  · rintro S O ⟨v_n19, h, rfl, rfl⟩
    unfold orchref2_Wrong_j1 at h
    refine cw_seq fun K19 hK19 => ?_
    refine cw_region ?_
    refine nx_o (op_move (.tmp 0 rfl)) rfl ?_
    refine nx_o (op_assign (.tmp 0 rfl)) rfl ?_
    refine nx_nil ?_
    refine Says.ex (S' := [(4, I v_n19)]) (O' := []) (says_pick [0] [] rfl rfl) ?_
    refine ex_kx (hK19 _ _ ?_)
    refine cw_ret ?_
    cases h
    exact ex_done (.inl rfl) rfl (fun a w G V hs _ hS => res1 rfl (.tmp 0 rfl) a w G V hS)
  ·
    refine cw_seq fun K20 hK20 => ?_
    refine cw_region ?_
    refine nx_o (op_assign (Can.int _ _ _)) rfl ?_
    refine nx_nil ?_
    refine ex_kx (hK20 _ _ ?_)
    refine cw_block ?_
    refine Says.cw (S' := [(0, SL 6 cNode v_t1), (1, SL 2 cSample v_l2), (5, I 0), (6, I 0)]) (O' := []) (says_pick [2, 3, 1, 0] [] rfl rfl) ?_
    refine cw_loopJ (fun n S O => ∃ (v_n30 : Int) (v_i31 : Int), orchref2_Wrong_l1 N v_l2 v_t1 n v_n30 v_i31 = some r ∧ S = [(0, SL 6 cNode v_t1), (1, SL 2 cSample v_l2), (5, I v_n30), (6, I v_i31)] ∧ O = []) ?_ ?_ N ⟨0, 0, h, rfl, rfl⟩
    · rintro S O ⟨v_n30, v_i31, h, -, -⟩
      simp [orchref2_Wrong_l1] at h
    · rintro n_1 S O ⟨v_n30, v_i31, h, rfl, rfl⟩ K29 hK29
      rw [orchref2_Wrong_l1] at h
      refine cw_seq fun K30 hK30 => ?_
      refine cw_seq fun K31 hK31 => ?_
      refine cw_region ?_
      refine nx_o (op_move (.tmp 3 rfl)) rfl ?_
      refine nx_o (op_move (.tmp 2 rfl)) rfl ?_
      refine nx_o (op_len (.tmp 0 rfl) u50) rfl ?_
      refine nx_o (op_lss (.tmp 2 rfl) (.tmp 0 rfl)) rfl ?_
      refine nx_nil ?_
      refine Says.ex (S' := [(11, B (decide (v_i31 < (v_l2.length : Int)))), (0, SL 6 cNode v_t1), (1, SL 2 cSample v_l2), (5, I v_n30), (6, I v_i31)]) (O' := []) (says_pick [0, 4, 5, 6, 7] [] rfl rfl) ?_
      refine ex_kx (hK31 _ _ ?_)
      refine cw_cond (b := (decide (v_i31 < (v_l2.length : Int)))) (.tmp 0 rfl) (fun hc => ?_) (fun hc => ?_)
      · have h := ite_t hc h
        refine cw_skip ?_
        refine ex_kx (hK30 _ _ ?_)
        refine cw_seq fun K32 hK32 => ?_
        refine cw_block ?_
        refine cw_seq fun K33 hK33 => ?_
        obtain ⟨v_y32, hv_y32, h⟩ := bnd h
        obtain ⟨v_y33, hv_y33, h⟩ := bnd h
        obtain ⟨v_r34, hv_r34, h⟩ := bnd h
        refine cw_draw (Plan.mk [] [[], [], [0, 1], [0, 1, 2], [0, 1, 2, 3], [], [], [], [6, 7], [6, 7, 8], [6, 7, 8, 9], [5, 6, 7, 8, 9, 10], [0, 1, 2, 3, 4, 5, 6, 7, 8, 9, 10, 11], [0, 1, 2, 3, 4, 5, 6, 7, 8, 9, 10, 11, 12]] [[(11, B (decide (v_i31 < (v_l2.length : Int)))), (0, SL 6 cNode v_t1), (1, SL 2 cSample v_l2), (5, I v_n30), (6, I v_i31)]] [[]] [(14, SL 2 cSample v_l2), (15, I v_i31), (16, .ptr (cSample v_y32)), (17, .ptr ((cSample v_y32).drop 1)), (18, I v_y32.target), (19, SL 6 cNode v_t1), (20, SL 2 cSample v_l2), (21, I v_i31), (22, .ptr (cSample v_y33)), (23, .ptr ((cSample v_y33).drop 0)), (24, SL 1 cI v_y33.row), (25, I v_r34), (26, I (w64 (v_y32.target - v_r34))), (7, I (w64 (v_y32.target - v_r34)))]) mixed rfl rfl rfl rfl ?_ ?_ ?_
        · exact (And.intro (fun _ => (And.intro (show OpY _ _ _ [(11, B (decide (v_i31 < (v_l2.length : Int)))), (0, SL 6 cNode v_t1), (1, SL 2 cSample v_l2), (5, I v_n30), (6, I v_i31)] [] _ (SL 2 cSample v_l2) [] allp from (OpX.y (op_move (.tmp 2 rfl)) rfl)) trivial)) (And.intro (fun _ => (And.intro (show OpY _ _ _ [(11, B (decide (v_i31 < (v_l2.length : Int)))), (0, SL 6 cNode v_t1), (1, SL 2 cSample v_l2), (5, I v_n30), (6, I v_i31)] [] _ (I v_i31) [] allp from (OpX.y (op_move (.tmp 4 rfl)) rfl)) trivial)) (And.intro (fun _ => (And.intro (show OpY _ _ _ [(11, B (decide (v_i31 < (v_l2.length : Int)))), (0, SL 6 cNode v_t1), (1, SL 2 cSample v_l2), (5, I v_n30), (6, I v_i31), (14, SL 2 cSample v_l2), (15, I v_i31)] [] _ (.ptr (cSample v_y32)) [] allp from (OpX.y (op_indexX hv_y32 (.tmp 5 rfl) (.tmp 6 rfl) u50 s146) rfl)) trivial)) (And.intro (fun _ => (And.intro (show OpY _ _ _ [(11, B (decide (v_i31 < (v_l2.length : Int)))), (0, SL 6 cNode v_t1), (1, SL 2 cSample v_l2), (5, I v_n30), (6, I v_i31), (14, SL 2 cSample v_l2), (15, I v_i31), (16, .ptr (cSample v_y32))] [] _ (.ptr ((cSample v_y32).drop 1)) [] allp from (OpX.y (op_field (.tmp 7 rfl) o146_1) rfl)) trivial)) (And.intro (fun _ => (And.intro (show OpY _ _ _ [(11, B (decide (v_i31 < (v_l2.length : Int)))), (0, SL 6 cNode v_t1), (1, SL 2 cSample v_l2), (5, I v_n30), (6, I v_i31), (14, SL 2 cSample v_l2), (15, I v_i31), (16, .ptr (cSample v_y32)), (17, .ptr ((cSample v_y32).drop 1))] [] _ (I v_y32.target) [] allp from (OpX.y (op_load1 (.tmp 8 rfl) a3) rfl)) trivial)) (And.intro (fun _ => (And.intro (show OpY _ _ _ [(11, B (decide (v_i31 < (v_l2.length : Int)))), (0, SL 6 cNode v_t1), (1, SL 2 cSample v_l2), (5, I v_n30), (6, I v_i31)] [] _ (SL 6 cNode v_t1) [] allp from (OpX.y (op_move (.tmp 1 rfl)) rfl)) trivial)) (And.intro (fun _ => (And.intro (show OpY _ _ _ [(11, B (decide (v_i31 < (v_l2.length : Int)))), (0, SL 6 cNode v_t1), (1, SL 2 cSample v_l2), (5, I v_n30), (6, I v_i31)] [] _ (SL 2 cSample v_l2) [] allp from (OpX.y (op_move (.tmp 2 rfl)) rfl)) trivial)) (And.intro (fun _ => (And.intro (show OpY _ _ _ [(11, B (decide (v_i31 < (v_l2.length : Int)))), (0, SL 6 cNode v_t1), (1, SL 2 cSample v_l2), (5, I v_n30), (6, I v_i31)] [] _ (I v_i31) [] allp from (OpX.y (op_move (.tmp 4 rfl)) rfl)) trivial)) (And.intro (fun _ => (And.intro (show OpY _ _ _ [(11, B (decide (v_i31 < (v_l2.length : Int)))), (0, SL 6 cNode v_t1), (1, SL 2 cSample v_l2), (5, I v_n30), (6, I v_i31), (20, SL 2 cSample v_l2), (21, I v_i31)] [] _ (.ptr (cSample v_y33)) [] allp from (OpX.y (op_indexX hv_y33 (.tmp 5 rfl) (.tmp 6 rfl) u50 s146) rfl)) trivial)) (And.intro (fun _ => (And.intro (show OpY _ _ _ [(11, B (decide (v_i31 < (v_l2.length : Int)))), (0, SL 6 cNode v_t1), (1, SL 2 cSample v_l2), (5, I v_n30), (6, I v_i31), (20, SL 2 cSample v_l2), (21, I v_i31), (22, .ptr (cSample v_y33))] [] _ (.ptr ((cSample v_y33).drop 0)) [] allp from (OpX.y (op_field (.tmp 7 rfl) o146_0) rfl)) trivial)) (And.intro (fun _ => (And.intro (show OpY _ _ _ [(11, B (decide (v_i31 < (v_l2.length : Int)))), (0, SL 6 cNode v_t1), (1, SL 2 cSample v_l2), (5, I v_n30), (6, I v_i31), (20, SL 2 cSample v_l2), (21, I v_i31), (22, .ptr (cSample v_y33)), (23, .ptr ((cSample v_y33).drop 0))] [] _ (SL 1 cI v_y33.row) [] allp from (OpX.y (op_load1 (.tmp 8 rfl) a22) rfl)) trivial)) (And.intro (fun _ => (And.intro (show OpY _ _ _ [(11, B (decide (v_i31 < (v_l2.length : Int)))), (0, SL 6 cNode v_t1), (1, SL 2 cSample v_l2), (5, I v_n30), (6, I v_i31), (19, SL 6 cNode v_t1), (20, SL 2 cSample v_l2), (21, I v_i31), (22, .ptr (cSample v_y33)), (23, .ptr ((cSample v_y33).drop 0)), (24, SL 1 cI v_y33.row)] [] _ (I v_r34) [] allp from (OpX.y (op_call0 (show Fn Go.Proofs.Tryd.prog 104 [SL 6 cNode v_t1, SL 1 cI v_y33.row] [] (I v_r34) [] from (f104_fn N v_t1 v_y33.row _ hv_r34)) c104 (.cons (.tmp 5 rfl) (.cons (.tmp 10 rfl) .nil))) rfl)) trivial)) (And.intro (fun _ => (And.intro (show OpY _ _ _ [(11, B (decide (v_i31 < (v_l2.length : Int)))), (0, SL 6 cNode v_t1), (1, SL 2 cSample v_l2), (5, I v_n30), (6, I v_i31), (14, SL 2 cSample v_l2), (15, I v_i31), (16, .ptr (cSample v_y32)), (17, .ptr ((cSample v_y32).drop 1)), (18, I v_y32.target), (19, SL 6 cNode v_t1), (20, SL 2 cSample v_l2), (21, I v_i31), (22, .ptr (cSample v_y33)), (23, .ptr ((cSample v_y33).drop 0)), (24, SL 1 cI v_y33.row), (25, I v_r34)] [] _ (I (w64 (v_y32.target - v_r34))) [] allp from (OpX.y (op_sub (.tmp 9 rfl) (.tmp 16 rfl)) rfl)) trivial)) (And.intro (fun _ => (And.intro (show OpY _ _ _ [(11, B (decide (v_i31 < (v_l2.length : Int)))), (0, SL 6 cNode v_t1), (1, SL 2 cSample v_l2), (5, I v_n30), (6, I v_i31), (14, SL 2 cSample v_l2), (15, I v_i31), (16, .ptr (cSample v_y32)), (17, .ptr ((cSample v_y32).drop 1)), (18, I v_y32.target), (19, SL 6 cNode v_t1), (20, SL 2 cSample v_l2), (21, I v_i31), (22, .ptr (cSample v_y33)), (23, .ptr ((cSample v_y33).drop 0)), (24, SL 1 cI v_y33.row), (25, I v_r34), (26, I (w64 (v_y32.target - v_r34)))] [] _ (I (w64 (v_y32.target - v_r34))) [] allp from (OpX.y (op_assign (.tmp 17 rfl)) rfl)) trivial)) trivial))))))))))))))
        · exact trivial
        show Ex _ _ _ [(11, B (decide (v_i31 < (v_l2.length : Int)))), (0, SL 6 cNode v_t1), (1, SL 2 cSample v_l2), (5, I v_n30), (6, I v_i31), (14, SL 2 cSample v_l2), (15, I v_i31), (16, .ptr (cSample v_y32)), (17, .ptr ((cSample v_y32).drop 1)), (18, I v_y32.target), (19, SL 6 cNode v_t1), (20, SL 2 cSample v_l2), (21, I v_i31), (22, .ptr (cSample v_y33)), (23, .ptr ((cSample v_y33).drop 0)), (24, SL 1 cI v_y33.row), (25, I v_r34), (26, I (w64 (v_y32.target - v_r34))), (7, I (w64 (v_y32.target - v_r34)))] []
        refine Says.ex (S' := [(0, SL 6 cNode v_t1), (1, SL 2 cSample v_l2), (5, I v_n30), (6, I v_i31), (7, I (w64 (v_y32.target - v_r34)))]) (O' := []) (says_pick [1, 2, 3, 4, 18] [] rfl rfl) ?_
        refine ex_kx (hK33 _ _ ?_)
        refine cw_region ?_
        refine nx_o (op_move (.tmp 2 rfl)) rfl ?_
        refine nx_o (op_move (.tmp 5 rfl)) rfl ?_
        refine nx_o (op_move (.tmp 6 rfl)) rfl ?_
        obtain ⟨v_t35, hv_t35, h⟩ := bnd h
        refine nx_o (OpX.named hv_t35 (op_mul (.tmp 1 rfl) (.tmp 0 rfl))) rfl ?_
        refine nx_o (op_add (.tmp 3 rfl) (.tmp 0 rfl)) rfl ?_
        refine nx_k [0, 1, 2, 3, 4, 5, 6, 8, 9] (op_assign (.tmp 0 rfl)) rfl rfl ?_
        show Nx _ _ _ _ _ [(5, I (w64 (v_n30 + v_t35))), (31, I (w64 (v_n30 + v_t35))), (30, I v_t35), (29, I (w64 (v_y32.target - v_r34))), (28, I (w64 (v_y32.target - v_r34))), (27, I v_n30), (0, SL 6 cNode v_t1), (1, SL 2 cSample v_l2), (6, I v_i31), (7, I (w64 (v_y32.target - v_r34)))] []
        refine nx_nil ?_
        refine Says.ex (S' := [(5, I (w64 (v_n30 + v_t35))), (0, SL 6 cNode v_t1), (1, SL 2 cSample v_l2), (6, I v_i31)]) (O' := []) (says_pick [0, 6, 7, 8] [] rfl rfl) ?_
        refine ex_bn ?_
        refine ex_kx (hK32 _ _ ?_)
        refine cw_region ?_
        refine nx_o (op_move (.tmp 3 rfl)) rfl ?_
        refine nx_o (op_add (.tmp 0 rfl) (Can.int _ _ _)) rfl ?_
        refine nx_k [0, 1, 2, 3, 4] (op_assign (.tmp 0 rfl)) rfl rfl ?_
        show Nx _ _ _ _ _ [(6, I (w64 (v_i31 + 1))), (13, I (w64 (v_i31 + 1))), (12, I v_i31), (5, I (w64 (v_n30 + v_t35))), (0, SL 6 cNode v_t1), (1, SL 2 cSample v_l2)] []
        refine nx_nil ?_
        refine Says.ex (S' := [(6, I (w64 (v_i31 + 1))), (5, I (w64 (v_n30 + v_t35))), (0, SL 6 cNode v_t1), (1, SL 2 cSample v_l2)]) (O' := []) (says_pick [0, 3, 4, 5] [] rfl rfl) ?_
        refine ex_kx ?_
        refine Says.kx (S' := [(0, SL 6 cNode v_t1), (1, SL 2 cSample v_l2), (5, I (w64 (v_n30 + v_t35))), (6, I (w64 (v_i31 + 1)))]) (O' := []) (says_pick [2, 3, 1, 0] [] rfl rfl) ?_
        exact hK29 _ _ ⟨w64 (v_n30 + v_t35), w64 (v_i31 + 1), h, rfl, rfl⟩
      · have h := ite_f hc h
        refine cw_exit ?_
        refine ex_te ?_
        refine ex_te ?_
        refine ex_be ?_
        refine ex_kx ?_
        refine Says.kx (S' := [(5, I v_n30)]) (O' := []) (says_pick [3] [] rfl rfl) ?_
        exact hK18 _ _ ⟨v_n30, h, rfl, rfl⟩

theorem f173_fn (N : Nat) (v_k1 : Int) (v_a2 : Int) (v_a3 : List Node) (r : Bool) (h : tree_node_1 N v_k1 v_a2 v_a3 = some r) : Fn Go.Proofs.Tryd.prog 173 [I v_k1, .ptr (cI v_a2), .ptr (cLNode v_a3)] [] (B r) [] := by
  unfold tree_node_1 at h
  refine fn_intro [] fun173 rfl rfl (Nat.le_of_ble_eq_true rfl) rfl rfl (fun w G V => ?_)
  show Cw _ _ _ _ [(0, I v_k1), (1, .ptr (cI v_a2)), (2, .ptr (cLNode v_a3))] []
  refine cw_seq fun K1 hK1 => ?_
  refine cw_region ?_
  refine nx_o (op_assign (Can.bool _ _)) rfl ?_
  refine nx_nil ?_
  refine Says.ex (S' := [(0, I v_k1), (1, .ptr (cI v_a2)), (2, .ptr (cLNode v_a3))]) (O' := []) (says_pick [1, 2, 3] [] rfl rfl) ?_
  refine ex_kx (hK1 _ _ ?_)
  refine cw_seq fun K2 hK2 => ?_
  refine cw_region ?_
  refine nx_o (op_move (.tmp 0 rfl)) rfl ?_
  refine nx_o (op_load1 (.tmp 2 rfl) a3) rfl ?_
  refine nx_o (op_gtr (.tmp 1 rfl) (.tmp 0 rfl)) rfl ?_
  refine nx_o (op_move (.tmp 0 rfl)) rfl ?_
  refine nx_g (opy_guard (cc := (decide (v_k1 > v_a2))) (.plain 0 rfl) rfl rfl (fun hg => (op_move (.tmp 4 rfl)))) rfl ?_
  refine nx_g (opy_guard (cc := (decide (v_k1 > v_a2))) (.plain 1 rfl) rfl rfl (fun hg => (op_load1 (.tmp 7 rfl) a29))) rfl ?_
  refine nx_g (opy_guard (cc := (decide (v_k1 > v_a2))) (.plain 2 rfl) rfl rfl (fun hg => (op_len (.cd 0 rfl hg) u29))) rfl ?_
  refine nx_g (opy_guard (cc := (decide (v_k1 > v_a2))) (.plain 3 rfl) rfl rfl (fun hg => (op_lss (.cd 2 rfl hg) (.cd 0 rfl hg)))) rfl ?_
  refine nx_o (op_and (.tmp 4 rfl) (fun hp => (.cd 0 rfl hp))) rfl ?_
  refine nx_o (op_assign (.tmp 0 rfl)) rfl ?_
  refine nx_nil ?_
  refine Says.ex (S' := [(4, B ((decide (v_k1 > v_a2)) && (decide (v_k1 < (v_a3.length : Int)))))]) (O' := []) (says_pick [0] [] rfl rfl) ?_
  refine ex_kx (hK2 _ _ ?_)
  refine cw_ret ?_
  cases h
  exact ex_done (.inl rfl) rfl (fun a w G V hs _ hS => res1 rfl (.tmp 0 rfl) a w G V hS)

theorem f134_fn (N : Nat) (v_a1 : List Node) (v_a2 : Int) (v_a3 : Int) (r : Option Int) (h : tree_node N v_a1 v_a2 v_a3 = some r) : Fn Go.Proofs.Tryd.prog 134 [SL 6 cNode v_a1, I v_a2, I v_a3] [] (Er TE r) [] := by
  unfold tree_node at h
  refine fn_intro [] fun134 rfl rfl (Nat.le_of_ble_eq_true rfl) rfl rfl (fun w G V => ?_)
  show Cw _ _ _ _ [(0, SL 6 cNode v_a1), (1, I v_a2), (2, I v_a3)] []
  refine cw_seq fun K1 hK1 => ?_
  refine cw_region ?_
  refine nx_o (op_box (its := (cLNode v_a1)) (.c (.tmp 0 rfl))) rfl ?_
  refine nx_o (op_box (its := (cI v_a2)) (.c (.tmp 2 rfl))) rfl ?_
  refine nx_o (op_assign (Can.nilE _ TE)) rfl ?_
  refine nx_nil ?_
  refine Says.ex (S' := [(4, .ptr (cI v_a2)), (3, .ptr (cLNode v_a1)), (2, I v_a3)]) (O' := []) (says_pick [1, 2, 5] [] rfl rfl) ?_
  refine ex_kx (hK1 _ _ ?_)
  refine cw_seq fun K2 hK2 => ?_
  refine cw_region ?_
  refine nx_o (op_load1 (.tmp 1 rfl) a29) rfl ?_
  refine nx_o (op_load1 (.tmp 1 rfl) a3) rfl ?_
  obtain ⟨v_y4, hv_y4, h⟩ := bnd h
  refine nx_o (op_indexX hv_y4 (.tmp 1 rfl) (.tmp 0 rfl) u29 s28) rfl ?_
  refine nx_o (op_loadA (cNode v_y4) (.tmp 0 rfl) a28 s28 rfl) rfl ?_
  refine nx_op (op_alloc 101 (cNode (Node.mk 0 0 0 0 false 0)) za28 zNode rfl) rfl ?_
  show Nx _ _ _ _ _ [(7, .ref 101), (12, .agg (cNode v_y4)), (11, .ptr (cNode v_y4)), (10, I v_a2), (9, SL 6 cNode v_a1), (4, .ptr (cI v_a2)), (3, .ptr (cLNode v_a1)), (2, I v_a3)] [(101, .var 28 [I 0, I 0, I 0, I 0, B false, I 0])]
  refine nx_o0 (op_storeVA (its := (cNode v_y4)) (.tmp 0 rfl) 0 rfl (.agg (.tmp 1 rfl)) rfl s28) ?_
  show Nx _ _ _ _ _ [(7, .ref 101), (12, .agg (cNode v_y4)), (11, .ptr (cNode v_y4)), (10, I v_a2), (9, SL 6 cNode v_a1), (4, .ptr (cI v_a2)), (3, .ptr (cLNode v_a1)), (2, I v_a3)] [(101, .var 28 [I v_y4.feature, I v_y4.cut, I v_y4.left, I v_y4.right, B v_y4.less, I v_y4.value])]
  refine nx_nil ?_
  refine Says.ex (S' := [(7, .ref 101), (4, .ptr (cI v_a2)), (3, .ptr (cLNode v_a1)), (2, I v_a3)]) (O' := [(101, .var 28 [I v_y4.feature, I v_y4.cut, I v_y4.left, I v_y4.right, B v_y4.less, I v_y4.value])]) (says_pick [0, 5, 6, 7] [0] rfl rfl) ?_
  refine ex_kx (hK2 _ _ ?_)
  refine cw_seq fun K3 hK3 => ?_
  refine cw_seq fun K4 hK4 => ?_
  refine cw_region ?_
  refine nx_o (op_fieldVar (.tmp 0 rfl) 0 rfl o28_0) rfl ?_
  refine nx_o (op_loadV (.tmp 0 rfl) 0 rfl rfl a3) rfl ?_
  refine nx_o (op_eql (.tmp 0 rfl) (Can.int _ _ _)) rfl ?_
  refine nx_nil ?_
  refine Says.ex (S' := [(15, B (v_y4.feature == (-1))), (7, .ref 101), (4, .ptr (cI v_a2)), (3, .ptr (cLNode v_a1)), (2, I v_a3)]) (O' := [(101, .var 28 [I v_y4.feature, I v_y4.cut, I v_y4.left, I v_y4.right, B v_y4.less, I v_y4.value])]) (says_pick [0, 3, 4, 5, 6] [0] rfl rfl) ?_
  refine ex_kx (hK4 _ _ ?_)
  refine cw_cond (b := (v_y4.feature == (-1))) (.tmp 0 rfl) (fun hc => ?_) (fun hc => ?_)
  · have h := ite_t hc h
    refine cw_seq fun K5 hK5 => ?_
    refine cw_block ?_
    refine cw_seq fun K6 hK6 => ?_
    refine cw_region ?_
    refine nx_o (op_fieldVar (.tmp 1 rfl) 0 rfl o28_5) rfl ?_
    refine nx_o (op_loadV (.tmp 0 rfl) 0 rfl rfl a3) rfl ?_
    obtain ⟨v_r5, hv_r5, h⟩ := bnd h
    refine nx_o (op_call0 (show Fn Go.Proofs.Tryd.prog 109 [I v_y4.value] [] (B v_r5) [] from (f109_fn N v_y4.value _ hv_r5)) c109 (.cons (.tmp 0 rfl) .nil)) rfl ?_
    refine nx_o (op_not (.tmp 0 rfl)) rfl ?_
    refine nx_o (op_assign (.tmp 0 rfl)) rfl ?_
    refine nx_nil ?_
    refine Says.ex (S' := [(16, B (!v_r5)), (7, .ref 101)]) (O' := [(101, .var 28 [I v_y4.feature, I v_y4.cut, I v_y4.left, I v_y4.right, B v_y4.less, I v_y4.value])]) (says_pick [0, 6] [0] rfl rfl) ?_
    refine ex_kx (hK6 _ _ ?_)
    refine cw_cond (b := (!v_r5)) (.tmp 0 rfl) (fun hc => ?_) (fun hc => ?_)
    · have h := ite_t hc h
      refine cw_seq fun K7 hK7 => ?_
      refine cw_region ?_
      refine nx_o (op_mkErr (Can.int _ _ _) u123 (fun _ h => by cases h)) rfl ?_
      refine nx_o (op_assign (.tmp 0 rfl)) rfl ?_
      refine nx_nil ?_
      refine Says.ex (S' := [(6, Er TE (some 1))]) (O' := []) (says_pick [0] [] rfl rfl) ?_
      refine ex_kx (hK7 _ _ ?_)
      refine cw_ret ?_
      refine ex_br ?_
      refine ex_tr ?_
      refine ex_tr ?_
      cases h
      exact ex_done (.inl rfl) rfl (fun a w G V hs _ hS => res1 rfl (.tmp 0 rfl) a w G V hS)
    · have h := ite_f hc h
      refine cw_seq fun K8 hK8 => ?_
      refine cw_region ?_
      refine nx_o (op_fieldVar (.tmp 1 rfl) 0 rfl o28_1) rfl ?_
      refine nx_o (op_loadV (.tmp 0 rfl) 0 rfl rfl a3) rfl ?_
      refine nx_o (op_neq (.tmp 0 rfl) (Can.int _ _ _)) rfl ?_
      refine nx_o (op_move (.tmp 0 rfl)) rfl ?_
      refine nx_g (opy_guard (cc := (!(v_y4.cut != 0))) (.plain 0 rfl) rfl rfl (fun hg => (op_fieldVar (.tmp 5 rfl) 0 rfl o28_2))) rfl ?_
      refine nx_g (opy_guard (cc := (!(v_y4.cut != 0))) (.plain 1 rfl) rfl rfl (fun hg => (op_loadV (.cd 0 rfl hg) 0 rfl rfl a3))) rfl ?_
      refine nx_g (opy_guard (cc := (!(v_y4.cut != 0))) (.plain 2 rfl) rfl rfl (fun hg => (op_neq (.cd 0 rfl hg) (Can.int _ _ _)))) rfl ?_
      refine nx_o (op_or (.tmp 3 rfl) (fun hp => (.cd 0 rfl (not_t hp)))) rfl ?_
      refine nx_o (op_move (.tmp 0 rfl)) rfl ?_
      refine nx_g (opy_guard (cc := (!((v_y4.cut != 0) || (v_y4.left != 0)))) (.plain 0 rfl) rfl rfl (fun hg => (op_fieldVar (.tmp 10 rfl) 0 rfl o28_3))) rfl ?_
      refine nx_g (opy_guard (cc := (!((v_y4.cut != 0) || (v_y4.left != 0)))) (.plain 1 rfl) rfl rfl (fun hg => (op_loadV (.cd 0 rfl hg) 0 rfl rfl a3))) rfl ?_
      refine nx_g (opy_guard (cc := (!((v_y4.cut != 0) || (v_y4.left != 0)))) (.plain 2 rfl) rfl rfl (fun hg => (op_neq (.cd 0 rfl hg) (Can.int _ _ _)))) rfl ?_
      refine nx_o (op_or (.tmp 3 rfl) (fun hp => (.cd 0 rfl (not_t hp)))) rfl ?_
      refine nx_o (op_move (.tmp 0 rfl)) rfl ?_
      refine nx_g (opy_guard (cc := (!(((v_y4.cut != 0) || (v_y4.left != 0)) || (v_y4.right != 0)))) (.plain 0 rfl) rfl rfl (fun hg => (op_fieldVar (.tmp 15 rfl) 0 rfl o28_4))) rfl ?_
      refine nx_g (opy_guard (cc := (!(((v_y4.cut != 0) || (v_y4.left != 0)) || (v_y4.right != 0)))) (.plain 1 rfl) rfl rfl (fun hg => (op_loadV (.cd 0 rfl hg) 0 rfl rfl a4))) rfl ?_
      refine nx_o (op_or (.tmp 2 rfl) (fun hp => (.cd 0 rfl (not_t hp)))) rfl ?_
      refine nx_o (op_assign (.tmp 0 rfl)) rfl ?_
      refine nx_nil ?_
      refine Says.ex (S' := [(22, B ((((v_y4.cut != 0) || (v_y4.left != 0)) || (v_y4.right != 0)) || v_y4.less))]) (O' := []) (says_pick [0] [] rfl rfl) ?_
      refine ex_kx (hK8 _ _ ?_)
      refine cw_cond (b := ((((v_y4.cut != 0) || (v_y4.left != 0)) || (v_y4.right != 0)) || v_y4.less)) (.tmp 0 rfl) (fun hc => ?_) (fun hc => ?_)
      · have h := ite_t hc h
        refine cw_seq fun K9 hK9 => ?_
        refine cw_region ?_
        refine nx_o (op_mkErr (Can.int _ _ _) u123 (fun _ h => by cases h)) rfl ?_
        refine nx_o (op_assign (.tmp 0 rfl)) rfl ?_
        refine nx_nil ?_
        refine Says.ex (S' := [(6, Er TE (some 3))]) (O' := []) (says_pick [0] [] rfl rfl) ?_
        refine ex_kx (hK9 _ _ ?_)
        refine cw_ret ?_
        refine ex_br ?_
        refine ex_tr ?_
        refine ex_tr ?_
        cases h
        exact ex_done (.inl rfl) rfl (fun a w G V hs _ hS => res1 rfl (.tmp 0 rfl) a w G V hS)
      · have h := ite_f hc h
        refine cw_skip ?_
        refine ex_bn ?_
        refine ex_kx (hK5 _ _ ?_)
        refine cw_seq fun K10 hK10 => ?_
        refine cw_region ?_
        refine nx_o (op_assign (Can.nilE _ TE)) rfl ?_
        refine nx_nil ?_
        refine Says.ex (S' := [(6, Er TE none)]) (O' := []) (says_pick [0] [] rfl rfl) ?_
        refine ex_kx (hK10 _ _ ?_)
        refine cw_ret ?_
        refine ex_tr ?_
        cases h
        exact ex_done (.inl rfl) rfl (fun a w G V hs _ hS => res1 rfl (.tmp 0 rfl) a w G V hS)
  · have h := ite_f hc h
    refine cw_skip ?_
    refine ex_kx (hK3 _ _ ?_)
    refine cw_seq fun K11 hK11 => ?_
    refine cw_region ?_
    refine nx_o (op_makeFunc (.cons (.tmp 2 rfl) (.cons (.tmp 3 rfl) .nil))) rfl ?_
    refine nx_o (op_assign (.tmp 0 rfl)) rfl ?_
    refine nx_nil ?_
    refine Says.ex (S' := [(8, .clo 173 [.ptr (cI v_a2), .ptr (cLNode v_a1)]), (7, .ref 101), (2, I v_a3)]) (O' := [(101, .var 28 [I v_y4.feature, I v_y4.cut, I v_y4.left, I v_y4.right, B v_y4.less, I v_y4.value])]) (says_pick [0, 3, 6] [0] rfl rfl) ?_
    refine ex_kx (hK11 _ _ ?_)
    refine cw_seq fun K12 hK12 => ?_
    refine cw_block ?_
    refine cw_seq fun K13 hK13 => ?_
    refine cw_region ?_
    refine nx_o (op_fieldVar (.tmp 1 rfl) 0 rfl o28_0) rfl ?_
    refine nx_o (op_loadV (.tmp 0 rfl) 0 rfl rfl a3) rfl ?_
    refine nx_o (op_lss (.tmp 0 rfl) (Can.int _ _ _)) rfl ?_
    refine nx_o (op_move (.tmp 0 rfl)) rfl ?_
    refine nx_g (opy_guard (cc := (!(decide (v_y4.feature < 0)))) (.plain 0 rfl) rfl rfl (fun hg => (op_fieldVar (.tmp 5 rfl) 0 rfl o28_0))) rfl ?_
    refine nx_g (opy_guard (cc := (!(decide (v_y4.feature < 0)))) (.plain 1 rfl) rfl rfl (fun hg => (op_loadV (.cd 0 rfl hg) 0 rfl rfl a3))) rfl ?_
    refine nx_g (opy_guard (cc := (!(decide (v_y4.feature < 0)))) (.plain 2 rfl) rfl rfl (fun hg => (op_move (.tmp 8 rfl)))) rfl ?_
    refine nx_g (opy_guard (cc := (!(decide (v_y4.feature < 0)))) (.plain 3 rfl) rfl rfl (fun hg => (op_geq (.cd 1 rfl hg) (.cd 0 rfl hg)))) rfl ?_
    refine nx_o (op_or (.tmp 4 rfl) (fun hp => (.cd 0 rfl (not_t hp)))) rfl ?_
    refine nx_o (op_move (.tmp 0 rfl)) rfl ?_
    refine nx_g (opy_guard (cc := (!((decide (v_y4.feature < 0)) || (decide (v_y4.feature ≥ v_a3))))) (.plain 0 rfl) rfl rfl (fun hg => (op_fieldVar (.tmp 11 rfl) 0 rfl o28_1))) rfl ?_
    refine nx_g (opy_guard (cc := (!((decide (v_y4.feature < 0)) || (decide (v_y4.feature ≥ v_a3))))) (.plain 1 rfl) rfl rfl (fun hg => (op_loadV (.cd 0 rfl hg) 0 rfl rfl a3))) rfl ?_
    obtain ⟨v_r6, hv_r6, h⟩ := bnd h
    refine nx_g (opy_guard (cc := (!((decide (v_y4.feature < 0)) || (decide (v_y4.feature ≥ v_a3))))) (.plain 2 rfl) rfl rfl (fun hg => (op_call0 (show Fn Go.Proofs.Tryd.prog 109 [I v_y4.cut] [] (B v_r6) [] from (f109_fn N v_y4.cut _ (gd_t hg hv_r6))) c109 (.cons (.cd 0 rfl hg) .nil)))) rfl ?_
    refine nx_g (opy_guard (cc := (!((decide (v_y4.feature < 0)) || (decide (v_y4.feature ≥ v_a3))))) (.plain 3 rfl) rfl rfl (fun hg => (op_not (.cd 0 rfl hg)))) rfl ?_
    refine nx_o (op_or (.tmp 4 rfl) (fun hp => (.cd 0 rfl (not_t hp)))) rfl ?_
    refine nx_o (op_move (.tmp 0 rfl)) rfl ?_
    refine nx_g (opy_guard (cc := (!(((decide (v_y4.feature < 0)) || (decide (v_y4.feature ≥ v_a3))) || (!v_r6)))) (.plain 0 rfl) rfl rfl (fun hg => (op_move (.tmp 16 rfl)))) rfl ?_
    refine nx_g (opy_guard (cc := (!(((decide (v_y4.feature < 0)) || (decide (v_y4.feature ≥ v_a3))) || (!v_r6)))) (.plain 1 rfl) rfl rfl (fun hg => (op_fieldVar (.tmp 18 rfl) 0 rfl o28_2))) rfl ?_
    refine nx_g (opy_guard (cc := (!(((decide (v_y4.feature < 0)) || (decide (v_y4.feature ≥ v_a3))) || (!v_r6)))) (.plain 2 rfl) rfl rfl (fun hg => (op_loadV (.cd 0 rfl hg) 0 rfl rfl a3))) rfl ?_
    obtain ⟨v_r7, hv_r7, h⟩ := bnd h
    refine nx_g (opy_guard (cc := (!(((decide (v_y4.feature < 0)) || (decide (v_y4.feature ≥ v_a3))) || (!v_r6)))) (.plain 3 rfl) rfl rfl (fun hg => (op_callC (show Fn Go.Proofs.Tryd.prog 173 ([I v_y4.left] ++ [.ptr (cI v_a2), .ptr (cLNode v_a1)]) [] (B v_r7) [] from (f173_fn N v_y4.left v_a2 v_a1 _ (gd_t hg hv_r7))) c173 (.cd 2 rfl hg) (.cons (.cd 0 rfl hg) .nil)))) rfl ?_
    refine nx_g (opy_guard (cc := (!(((decide (v_y4.feature < 0)) || (decide (v_y4.feature ≥ v_a3))) || (!v_r6)))) (.plain 4 rfl) rfl rfl (fun hg => (op_not (.cd 0 rfl hg)))) rfl ?_
    refine nx_o (op_or (.tmp 5 rfl) (fun hp => (.cd 0 rfl (not_t hp)))) rfl ?_
    refine nx_o (op_move (.tmp 0 rfl)) rfl ?_
    refine nx_g (opy_guard (cc := (!((((decide (v_y4.feature < 0)) || (decide (v_y4.feature ≥ v_a3))) || (!v_r6)) || (!v_r7)))) (.plain 0 rfl) rfl rfl (fun hg => (op_move (.tmp 23 rfl)))) rfl ?_
    refine nx_g (opy_guard (cc := (!((((decide (v_y4.feature < 0)) || (decide (v_y4.feature ≥ v_a3))) || (!v_r6)) || (!v_r7)))) (.plain 1 rfl) rfl rfl (fun hg => (op_fieldVar (.tmp 25 rfl) 0 rfl o28_3))) rfl ?_
    refine nx_g (opy_guard (cc := (!((((decide (v_y4.feature < 0)) || (decide (v_y4.feature ≥ v_a3))) || (!v_r6)) || (!v_r7)))) (.plain 2 rfl) rfl rfl (fun hg => (op_loadV (.cd 0 rfl hg) 0 rfl rfl a3))) rfl ?_
    obtain ⟨v_r8, hv_r8, h⟩ := bnd h
    refine nx_g (opy_guard (cc := (!((((decide (v_y4.feature < 0)) || (decide (v_y4.feature ≥ v_a3))) || (!v_r6)) || (!v_r7)))) (.plain 3 rfl) rfl rfl (fun hg => (op_callC (show Fn Go.Proofs.Tryd.prog 173 ([I v_y4.right] ++ [.ptr (cI v_a2), .ptr (cLNode v_a1)]) [] (B v_r8) [] from (f173_fn N v_y4.right v_a2 v_a1 _ (gd_t hg hv_r8))) c173 (.cd 2 rfl hg) (.cons (.cd 0 rfl hg) .nil)))) rfl ?_
    refine nx_g (opy_guard (cc := (!((((decide (v_y4.feature < 0)) || (decide (v_y4.feature ≥ v_a3))) || (!v_r6)) || (!v_r7)))) (.plain 4 rfl) rfl rfl (fun hg => (op_not (.cd 0 rfl hg)))) rfl ?_
    refine nx_o (op_or (.tmp 5 rfl) (fun hp => (.cd 0 rfl (not_t hp)))) rfl ?_
    refine nx_o (op_assign (.tmp 0 rfl)) rfl ?_
    refine nx_nil ?_
    refine Says.ex (S' := [(42, B (((((decide (v_y4.feature < 0)) || (decide (v_y4.feature ≥ v_a3))) || (!v_r6)) || (!v_r7)) || (!v_r8))), (7, .ref 101)]) (O' := [(101, .var 28 [I v_y4.feature, I v_y4.cut, I v_y4.left, I v_y4.right, B v_y4.less, I v_y4.value])]) (says_pick [0, 31] [0] rfl rfl) ?_
    refine ex_kx (hK13 _ _ ?_)
    refine cw_cond (b := (((((decide (v_y4.feature < 0)) || (decide (v_y4.feature ≥ v_a3))) || (!v_r6)) || (!v_r7)) || (!v_r8))) (.tmp 0 rfl) (fun hc => ?_) (fun hc => ?_)
    · have h := ite_t hc h
      refine cw_seq fun K14 hK14 => ?_
      refine cw_region ?_
      refine nx_o (op_mkErr (Can.int _ _ _) u123 (fun _ h => by cases h)) rfl ?_
      refine nx_o (op_assign (.tmp 0 rfl)) rfl ?_
      refine nx_nil ?_
      refine Says.ex (S' := [(6, Er TE (some 1))]) (O' := []) (says_pick [0] [] rfl rfl) ?_
      refine ex_kx (hK14 _ _ ?_)
      refine cw_ret ?_
      refine ex_br ?_
      refine ex_tr ?_
      cases h
      exact ex_done (.inl rfl) rfl (fun a w G V hs _ hS => res1 rfl (.tmp 0 rfl) a w G V hS)
    · have h := ite_f hc h
      refine cw_seq fun K15 hK15 => ?_
      refine cw_region ?_
      refine nx_o (op_fieldVar (.tmp 1 rfl) 0 rfl o28_5) rfl ?_
      refine nx_o (op_loadV (.tmp 0 rfl) 0 rfl rfl a3) rfl ?_
      refine nx_o (op_neq (.tmp 0 rfl) (Can.int _ _ _)) rfl ?_
      refine nx_o (op_move (.tmp 0 rfl)) rfl ?_
      refine nx_g (opy_guard (cc := (!(v_y4.value != 0))) (.plain 0 rfl) rfl rfl (fun hg => (op_fieldVar (.tmp 5 rfl) 0 rfl o28_2))) rfl ?_
      refine nx_g (opy_guard (cc := (!(v_y4.value != 0))) (.plain 1 rfl) rfl rfl (fun hg => (op_loadV (.cd 0 rfl hg) 0 rfl rfl a3))) rfl ?_
      refine nx_g (opy_guard (cc := (!(v_y4.value != 0))) (.plain 2 rfl) rfl rfl (fun hg => (op_fieldVar (.tmp 7 rfl) 0 rfl o28_3))) rfl ?_
      refine nx_g (opy_guard (cc := (!(v_y4.value != 0))) (.plain 3 rfl) rfl rfl (fun hg => (op_loadV (.cd 0 rfl hg) 0 rfl rfl a3))) rfl ?_
      refine nx_g (opy_guard (cc := (!(v_y4.value != 0))) (.plain 4 rfl) rfl rfl (fun hg => (op_eql (.cd 2 rfl hg) (.cd 0 rfl hg)))) rfl ?_
      refine nx_o (op_or (.tmp 5 rfl) (fun hp => (.cd 0 rfl (not_t hp)))) rfl ?_
      refine nx_o (op_assign (.tmp 0 rfl)) rfl ?_
      refine nx_nil ?_
      refine Says.ex (S' := [(73, B ((v_y4.value != 0) || (v_y4.left == v_y4.right)))]) (O' := []) (says_pick [0] [] rfl rfl) ?_
      refine ex_kx (hK15 _ _ ?_)
      refine cw_cond (b := ((v_y4.value != 0) || (v_y4.left == v_y4.right))) (.tmp 0 rfl) (fun hc => ?_) (fun hc => ?_)
      · have h := ite_t hc h
        refine cw_seq fun K16 hK16 => ?_
        refine cw_region ?_
        refine nx_o (op_mkErr (Can.int _ _ _) u123 (fun _ h => by cases h)) rfl ?_
        refine nx_o (op_assign (.tmp 0 rfl)) rfl ?_
        refine nx_nil ?_
        refine Says.ex (S' := [(6, Er TE (some 3))]) (O' := []) (says_pick [0] [] rfl rfl) ?_
        refine ex_kx (hK16 _ _ ?_)
        refine cw_ret ?_
        refine ex_br ?_
        refine ex_tr ?_
        cases h
        exact ex_done (.inl rfl) rfl (fun a w G V hs _ hS => res1 rfl (.tmp 0 rfl) a w G V hS)
      · have h := ite_f hc h
        refine cw_skip ?_
        refine ex_bn ?_
        refine ex_kx (hK12 _ _ ?_)
        refine cw_seq fun K17 hK17 => ?_
        refine cw_region ?_
        refine nx_o (op_assign (Can.nilE _ TE)) rfl ?_
        refine nx_nil ?_
        refine Says.ex (S' := [(6, Er TE none)]) (O' := []) (says_pick [0] [] rfl rfl) ?_
        refine ex_kx (hK17 _ _ ?_)
        refine cw_ret ?_
        cases h
        exact ex_done (.inl rfl) rfl (fun a w G V hs _ hS => res1 rfl (.tmp 0 rfl) a w G V hS)

theorem f135_fn (N : Nat) (v_t1 : List Node) (r : Int) (h : tree_depth N v_t1 = some r) : Fn Go.Proofs.Tryd.prog 135 [SL 6 cNode v_t1] [] (I r) [] := by
  unfold tree_depth at h
  refine fn_intro [] fun135 rfl rfl (Nat.le_of_ble_eq_true rfl) rfl rfl (fun w G V => ?_)
  show Cw _ _ _ _ [(0, SL 6 cNode v_t1)] []
  refine cw_seq fun K1 hK1 => ?_
  refine cw_region ?_
  refine nx_o (op_assign (Can.int _ _ _)) rfl ?_
  refine nx_nil ?_
  refine Says.ex (S' := [(0, SL 6 cNode v_t1)]) (O' := []) (says_pick [1] [] rfl rfl) ?_
  refine ex_kx (hK1 _ _ ?_)
  refine cw_seq fun K2 hK2 => ?_
  refine cw_region ?_
  refine nx_o (op_move (.tmp 0 rfl)) rfl ?_
  refine nx_o (op_len (.tmp 0 rfl) u29) rfl ?_
  obtain ⟨v_t2, hv_t2, h⟩ := bnd h
  refine nx_op (op_makeX (n := 1) (c := cI) hv_t2 101 (.tmp 0 rfl) (.tmp 0 rfl) u22 i3 (by decide) (by decide) bl22 zI (fun _ => rfl) rfl) rfl ?_
  show Nx _ _ _ _ _ [(8, .ref 101), (7, I (v_t1.length : Int)), (6, SL 6 cNode v_t1), (0, SL 6 cNode v_t1)] [(101, .row 3 1 cI v_t2)]
  refine nx_o (op_assign (.tmp 0 rfl)) rfl ?_
  refine nx_nil ?_
  refine Says.ex (S' := [(3, .ref 101), (0, SL 6 cNode v_t1)]) (O' := [(101, .row 3 1 cI v_t2)]) (says_pick [0, 4] [0] rfl rfl) ?_
  refine ex_kx (hK2 _ _ ?_)
  refine cw_join (fun S O => ∃ (v_d19 : List Int), tree_depth_j1 N v_d19 = some r ∧ S = [(3, .ref 101)] ∧ O = [(101, .row 3 1 cI v_d19)]) ?_ (fun K21 hK21 => ?_)
  · rintro S O ⟨v_d19, h, rfl, rfl⟩
    unfold tree_depth_j1 at h
    refine cw_seq fun K22 hK22 => ?_
    refine cw_region ?_
    refine nx_o (op_move (.tmp 0 rfl)) rfl ?_
    obtain ⟨v_y20, hv_y20, h⟩ := bnd h
    refine nx_o (op_indexRX hv_y20 (.tmp 0 rfl) 0 rfl (Can.int _ _ _) u22 s3) rfl ?_
    refine nx_o (op_loadR (n := 1) (c := cI) (l := v_d19) (.tmp 0 rfl) 0 rfl _ 0 rfl (ix_spec hv_y20).2 rfl a3) rfl ?_
    refine nx_o (op_assign (.tmp 0 rfl)) rfl ?_
    refine nx_nil ?_
    refine Says.ex (S' := [(2, I v_y20)]) (O' := []) (says_pick [0] [] rfl rfl) ?_
    refine ex_kx (hK22 _ _ ?_)
    refine cw_ret ?_
    cases h
    exact ex_done (.inl rfl) rfl (fun a w G V hs _ hS => res1 rfl (.tmp 0 rfl) a w G V hS)
  ·
    refine cw_seq fun K23 hK23 => ?_
    refine cw_region ?_
    refine nx_o (op_move (.tmp 1 rfl)) rfl ?_
    refine nx_o (op_len (.tmp 0 rfl) u29) rfl ?_
    refine nx_o (op_sub (.tmp 0 rfl) (Can.int _ _ _)) rfl ?_
    refine nx_o (op_assign (.tmp 0 rfl)) rfl ?_
    refine nx_nil ?_
    refine Says.ex (S' := [(4, I (w64 ((v_t1.length : Int) - 1))), (3, .ref 101), (0, SL 6 cNode v_t1)]) (O' := [(101, .row 3 1 cI v_t2)]) (says_pick [0, 4, 5] [0] rfl rfl) ?_
    refine ex_kx (hK23 _ _ ?_)
    refine cw_block ?_
    refine Says.cw (S' := [(0, SL 6 cNode v_t1), (3, .ref 101), (4, I (w64 ((v_t1.length : Int) - 1)))]) (O' := [(101, .row 3 1 cI v_t2)]) (says_pick [2, 1, 0] [0] rfl rfl) ?_
    refine cw_loopJ (fun n S O => ∃ (v_d31 : List Int) (v_i32 : Int), tree_depth_l1 N v_t1 n v_d31 v_i32 = some r ∧ S = [(0, SL 6 cNode v_t1), (3, .ref 101), (4, I v_i32)] ∧ O = [(101, .row 3 1 cI v_d31)]) ?_ ?_ N ⟨v_t2, w64 ((v_t1.length : Int) - 1), h, rfl, rfl⟩
    · rintro S O ⟨v_d31, v_i32, h, -, -⟩
      simp [tree_depth_l1] at h
    · rintro n_1 S O ⟨v_d31, v_i32, h, rfl, rfl⟩ K34 hK34
      rw [tree_depth_l1] at h
      refine cw_seq fun K35 hK35 => ?_
      refine cw_seq fun K36 hK36 => ?_
      refine cw_region ?_
      refine nx_o (op_move (.tmp 2 rfl)) rfl ?_
      refine nx_o (op_geq (.tmp 0 rfl) (Can.int _ _ _)) rfl ?_
      refine nx_nil ?_
      refine Says.ex (S' := [(13, B (decide (v_i32 ≥ 0))), (0, SL 6 cNode v_t1), (3, .ref 101), (4, I v_i32)]) (O' := [(101, .row 3 1 cI v_d31)]) (says_pick [0, 2, 3, 4] [0] rfl rfl) ?_
      refine ex_kx (hK36 _ _ ?_)
      refine cw_cond (b := (decide (v_i32 ≥ 0))) (.tmp 0 rfl) (fun hc => ?_) (fun hc => ?_)
      · have h := ite_t hc h
        refine cw_skip ?_
        refine ex_kx (hK35 _ _ ?_)
        refine cw_seq fun K37 hK37 => ?_
        refine cw_block ?_
        refine cw_seq fun K38 hK38 => ?_
        refine cw_region ?_
        refine nx_o (op_move (.tmp 1 rfl)) rfl ?_
        refine nx_o (op_move (.tmp 4 rfl)) rfl ?_
        obtain ⟨v_y33, hv_y33, h⟩ := bnd h
        refine nx_o (op_indexX hv_y33 (.tmp 1 rfl) (.tmp 0 rfl) u29 s28) rfl ?_
        refine nx_o (op_loadA (cNode v_y33) (.tmp 0 rfl) a28 s28 rfl) rfl ?_
        refine nx_op (op_alloc 107 (cNode (Node.mk 0 0 0 0 false 0)) za28 zNode rfl) rfl ?_
        show Nx _ _ _ _ _ [(5, .ref 107), (19, .agg (cNode v_y33)), (18, .ptr (cNode v_y33)), (17, I v_i32), (16, SL 6 cNode v_t1), (13, B (decide (v_i32 ≥ 0))), (0, SL 6 cNode v_t1), (3, .ref 101), (4, I v_i32)] [(107, .var 28 [I 0, I 0, I 0, I 0, B false, I 0]), (101, .row 3 1 cI v_d31)]
        refine nx_o0 (op_storeVA (its := (cNode v_y33)) (.tmp 0 rfl) 0 rfl (.agg (.tmp 1 rfl)) rfl s28) ?_
        show Nx _ _ _ _ _ [(5, .ref 107), (19, .agg (cNode v_y33)), (18, .ptr (cNode v_y33)), (17, I v_i32), (16, SL 6 cNode v_t1), (13, B (decide (v_i32 ≥ 0))), (0, SL 6 cNode v_t1), (3, .ref 101), (4, I v_i32)] [(107, .var 28 [I v_y33.feature, I v_y33.cut, I v_y33.left, I v_y33.right, B v_y33.less, I v_y33.value]), (101, .row 3 1 cI v_d31)]
        refine nx_nil ?_
        refine Says.ex (S' := [(5, .ref 107), (0, SL 6 cNode v_t1), (3, .ref 101), (4, I v_i32)]) (O' := [(107, .var 28 [I v_y33.feature, I v_y33.cut, I v_y33.left, I v_y33.right, B v_y33.less, I v_y33.value]), (101, .row 3 1 cI v_d31)]) (says_pick [0, 6, 7, 8] [0, 1] rfl rfl) ?_
        refine ex_kx (hK38 _ _ ?_)
        refine cw_seq fun K39 hK39 => ?_
        refine cw_region ?_
        refine nx_o (op_fieldVar (.tmp 0 rfl) 0 rfl o28_0) rfl ?_
        refine nx_o (op_loadV (.tmp 0 rfl) 0 rfl rfl a3) rfl ?_
        refine nx_o (op_neq (.tmp 0 rfl) (Can.int _ _ _)) rfl ?_
        refine nx_nil ?_
        refine Says.ex (S' := [(22, B (v_y33.feature != (-1))), (5, .ref 107), (0, SL 6 cNode v_t1), (3, .ref 101), (4, I v_i32)]) (O' := [(107, .var 28 [I v_y33.feature, I v_y33.cut, I v_y33.left, I v_y33.right, B v_y33.less, I v_y33.value]), (101, .row 3 1 cI v_d31)]) (says_pick [0, 3, 4, 5, 6] [0, 1] rfl rfl) ?_
        refine ex_kx (hK39 _ _ ?_)
        refine cw_cond (b := (v_y33.feature != (-1))) (.tmp 0 rfl) (fun hc => ?_) (fun hc => ?_)
        · have h := ite_t hc h
          obtain ⟨v_y34, hv_y34, h⟩ := bnd h
          obtain ⟨v_y35, hv_y35, h⟩ := bnd h
          obtain ⟨v_y36, hv_y36, h⟩ := bnd h
          refine cw_draw (Plan.mk [15] [[], [], [], [], [3], [2, 3, 4], [2, 3, 4, 5], [], [], [8], [7, 8, 9], [7, 8, 9, 10], [2, 3, 4, 5, 6, 7, 8, 9, 10, 11], [2, 3, 4, 5, 6, 7, 8, 9, 10, 11, 12], [0, 1, 2, 3, 4, 5, 6, 7, 8, 9, 10, 11, 12, 13], [0, 1, 2, 3, 4, 5, 6, 7, 8, 9, 10, 11, 12, 13, 14]] [[(22, B (v_y33.feature != (-1))), (5, .ref 107), (0, SL 6 cNode v_t1), (3, .ref 101), (4, I v_i32)], [(22, B (v_y33.feature != (-1))), (5, .ref 107), (0, SL 6 cNode v_t1), (3, .ref 101), (4, I v_i32)]] [[(107, .var 28 [I v_y33.feature, I v_y33.cut, I v_y33.left, I v_y33.right, B v_y33.less, I v_y33.value]), (101, .row 3 1 cI v_d31)], [(101, .row 3 1 cI (v_d31.set v_i32.toNat (w64 (1 + (max v_y34 v_y35))))), (107, .var 28 [I v_y33.feature, I v_y33.cut, I v_y33.left, I v_y33.right, B v_y33.less, I v_y33.value])]] [(23, .ref 101), (24, I v_i32), (25, .ref 101), (26, .pt 107 2), (27, I v_y33.left), (28, .pt 101 (v_y33.left.toNat * 1)), (29, I v_y34), (30, .ref 101), (31, .pt 107 3), (32, I v_y33.right), (33, .pt 101 (v_y33.right.toNat * 1)), (34, I v_y35), (35, I (max v_y34 v_y35)), (36, I (w64 (1 + (max v_y34 v_y35)))), (37, .pt 101 (v_i32.toNat * 1)), (0, .raw undef)]) mixed rfl rfl rfl rfl ?_ ?_ ?_
          · exact (And.intro (fun _ => (And.intro (show OpY _ _ _ [(22, B (v_y33.feature != (-1))), (5, .ref 107), (0, SL 6 cNode v_t1), (3, .ref 101), (4, I v_i32)] [(107, .var 28 [I v_y33.feature, I v_y33.cut, I v_y33.left, I v_y33.right, B v_y33.less, I v_y33.value]), (101, .row 3 1 cI v_d31)] _ (.ref 101) [(107, .var 28 [I v_y33.feature, I v_y33.cut, I v_y33.left, I v_y33.right, B v_y33.less, I v_y33.value]), (101, .row 3 1 cI v_d31)] allp from (OpX.y (op_move (.tmp 3 rfl)) rfl)) trivial)) (And.intro (fun _ => (And.intro (show OpY _ _ _ [(22, B (v_y33.feature != (-1))), (5, .ref 107), (0, SL 6 cNode v_t1), (3, .ref 101), (4, I v_i32)] [(107, .var 28 [I v_y33.feature, I v_y33.cut, I v_y33.left, I v_y33.right, B v_y33.less, I v_y33.value]), (101, .row 3 1 cI v_d31)] _ (I v_i32) [(107, .var 28 [I v_y33.feature, I v_y33.cut, I v_y33.left, I v_y33.right, B v_y33.less, I v_y33.value]), (101, .row 3 1 cI v_d31)] allp from (OpX.y (op_move (.tmp 4 rfl)) rfl)) trivial)) (And.intro (fun _ => (And.intro (show OpY _ _ _ [(22, B (v_y33.feature != (-1))), (5, .ref 107), (0, SL 6 cNode v_t1), (3, .ref 101), (4, I v_i32)] [(107, .var 28 [I v_y33.feature, I v_y33.cut, I v_y33.left, I v_y33.right, B v_y33.less, I v_y33.value]), (101, .row 3 1 cI v_d31)] _ (.ref 101) [(107, .var 28 [I v_y33.feature, I v_y33.cut, I v_y33.left, I v_y33.right, B v_y33.less, I v_y33.value]), (101, .row 3 1 cI v_d31)] allp from (OpX.y (op_move (.tmp 3 rfl)) rfl)) trivial)) (And.intro (fun _ => (And.intro (show OpY _ _ _ [(22, B (v_y33.feature != (-1))), (5, .ref 107), (0, SL 6 cNode v_t1), (3, .ref 101), (4, I v_i32)] [(107, .var 28 [I v_y33.feature, I v_y33.cut, I v_y33.left, I v_y33.right, B v_y33.less, I v_y33.value]), (101, .row 3 1 cI v_d31)] _ (.pt 107 2) [(107, .var 28 [I v_y33.feature, I v_y33.cut, I v_y33.left, I v_y33.right, B v_y33.less, I v_y33.value]), (101, .row 3 1 cI v_d31)] allp from (OpX.y (op_fieldVar (.tmp 1 rfl) 0 rfl o28_2) rfl)) trivial)) (And.intro (fun _ => (And.intro (show OpY _ _ _ [(22, B (v_y33.feature != (-1))), (5, .ref 107), (0, SL 6 cNode v_t1), (3, .ref 101), (4, I v_i32), (26, .pt 107 2)] [(107, .var 28 [I v_y33.feature, I v_y33.cut, I v_y33.left, I v_y33.right, B v_y33.less, I v_y33.value]), (101, .row 3 1 cI v_d31)] _ (I v_y33.left) [(107, .var 28 [I v_y33.feature, I v_y33.cut, I v_y33.left, I v_y33.right, B v_y33.less, I v_y33.value]), (101, .row 3 1 cI v_d31)] allp from (OpX.y (op_loadV (.tmp 5 rfl) 0 rfl rfl a3) rfl)) trivial)) (And.intro (fun _ => (And.intro (show OpY _ _ _ [(22, B (v_y33.feature != (-1))), (5, .ref 107), (0, SL 6 cNode v_t1), (3, .ref 101), (4, I v_i32), (25, .ref 101), (26, .pt 107 2), (27, I v_y33.left)] [(107, .var 28 [I v_y33.feature, I v_y33.cut, I v_y33.left, I v_y33.right, B v_y33.less, I v_y33.value]), (101, .row 3 1 cI v_d31)] _ (.pt 101 (v_y33.left.toNat * 1)) [(107, .var 28 [I v_y33.feature, I v_y33.cut, I v_y33.left, I v_y33.right, B v_y33.less, I v_y33.value]), (101, .row 3 1 cI v_d31)] allp from (OpX.y (op_indexRX hv_y34 (.tmp 5 rfl) 1 rfl (.tmp 7 rfl) u22 s3) rfl)) trivial)) (And.intro (fun _ => (And.intro (show OpY _ _ _ [(22, B (v_y33.feature != (-1))), (5, .ref 107), (0, SL 6 cNode v_t1), (3, .ref 101), (4, I v_i32), (25, .ref 101), (26, .pt 107 2), (27, I v_y33.left), (28, .pt 101 (v_y33.left.toNat * 1))] [(107, .var 28 [I v_y33.feature, I v_y33.cut, I v_y33.left, I v_y33.right, B v_y33.less, I v_y33.value]), (101, .row 3 1 cI v_d31)] _ (I v_y34) [(107, .var 28 [I v_y33.feature, I v_y33.cut, I v_y33.left, I v_y33.right, B v_y33.less, I v_y33.value]), (101, .row 3 1 cI v_d31)] allp from (OpX.y (op_loadR (n := 1) (c := cI) (l := v_d31) (.tmp 8 rfl) 1 rfl _ 0 rfl (ix_spec hv_y34).2 rfl a3) rfl)) trivial)) (And.intro (fun _ => (And.intro (show OpY _ _ _ [(22, B (v_y33.feature != (-1))), (5, .ref 107), (0, SL 6 cNode v_t1), (3, .ref 101), (4, I v_i32)] [(107, .var 28 [I v_y33.feature, I v_y33.cut, I v_y33.left, I v_y33.right, B v_y33.less, I v_y33.value]), (101, .row 3 1 cI v_d31)] _ (.ref 101) [(107, .var 28 [I v_y33.feature, I v_y33.cut, I v_y33.left, I v_y33.right, B v_y33.less, I v_y33.value]), (101, .row 3 1 cI v_d31)] allp from (OpX.y (op_move (.tmp 3 rfl)) rfl)) trivial)) (And.intro (fun _ => (And.intro (show OpY _ _ _ [(22, B (v_y33.feature != (-1))), (5, .ref 107), (0, SL 6 cNode v_t1), (3, .ref 101), (4, I v_i32)] [(107, .var 28 [I v_y33.feature, I v_y33.cut, I v_y33.left, I v_y33.right, B v_y33.less, I v_y33.value]), (101, .row 3 1 cI v_d31)] _ (.pt 107 3) [(107, .var 28 [I v_y33.feature, I v_y33.cut, I v_y33.left, I v_y33.right, B v_y33.less, I v_y33.value]), (101, .row 3 1 cI v_d31)] allp from (OpX.y (op_fieldVar (.tmp 1 rfl) 0 rfl o28_3) rfl)) trivial)) (And.intro (fun _ => (And.intro (show OpY _ _ _ [(22, B (v_y33.feature != (-1))), (5, .ref 107), (0, SL 6 cNode v_t1), (3, .ref 101), (4, I v_i32), (31, .pt 107 3)] [(107, .var 28 [I v_y33.feature, I v_y33.cut, I v_y33.left, I v_y33.right, B v_y33.less, I v_y33.value]), (101, .row 3 1 cI v_d31)] _ (I v_y33.right) [(107, .var 28 [I v_y33.feature, I v_y33.cut, I v_y33.left, I v_y33.right, B v_y33.less, I v_y33.value]), (101, .row 3 1 cI v_d31)] allp from (OpX.y (op_loadV (.tmp 5 rfl) 0 rfl rfl a3) rfl)) trivial)) (And.intro (fun _ => (And.intro (show OpY _ _ _ [(22, B (v_y33.feature != (-1))), (5, .ref 107), (0, SL 6 cNode v_t1), (3, .ref 101), (4, I v_i32), (30, .ref 101), (31, .pt 107 3), (32, I v_y33.right)] [(107, .var 28 [I v_y33.feature, I v_y33.cut, I v_y33.left, I v_y33.right, B v_y33.less, I v_y33.value]), (101, .row 3 1 cI v_d31)] _ (.pt 101 (v_y33.right.toNat * 1)) [(107, .var 28 [I v_y33.feature, I v_y33.cut, I v_y33.left, I v_y33.right, B v_y33.less, I v_y33.value]), (101, .row 3 1 cI v_d31)] allp from (OpX.y (op_indexRX hv_y35 (.tmp 5 rfl) 1 rfl (.tmp 7 rfl) u22 s3) rfl)) trivial)) (And.intro (fun _ => (And.intro (show OpY _ _ _ [(22, B (v_y33.feature != (-1))), (5, .ref 107), (0, SL 6 cNode v_t1), (3, .ref 101), (4, I v_i32), (30, .ref 101), (31, .pt 107 3), (32, I v_y33.right), (33, .pt 101 (v_y33.right.toNat * 1))] [(107, .var 28 [I v_y33.feature, I v_y33.cut, I v_y33.left, I v_y33.right, B v_y33.less, I v_y33.value]), (101, .row 3 1 cI v_d31)] _ (I v_y35) [(107, .var 28 [I v_y33.feature, I v_y33.cut, I v_y33.left, I v_y33.right, B v_y33.less, I v_y33.value]), (101, .row 3 1 cI v_d31)] allp from (OpX.y (op_loadR (n := 1) (c := cI) (l := v_d31) (.tmp 8 rfl) 1 rfl _ 0 rfl (ix_spec hv_y35).2 rfl a3) rfl)) trivial)) (And.intro (fun _ => (And.intro (show OpY _ _ _ [(22, B (v_y33.feature != (-1))), (5, .ref 107), (0, SL 6 cNode v_t1), (3, .ref 101), (4, I v_i32), (25, .ref 101), (26, .pt 107 2), (27, I v_y33.left), (28, .pt 101 (v_y33.left.toNat * 1)), (29, I v_y34), (30, .ref 101), (31, .pt 107 3), (32, I v_y33.right), (33, .pt 101 (v_y33.right.toNat * 1)), (34, I v_y35)] [(107, .var 28 [I v_y33.feature, I v_y33.cut, I v_y33.left, I v_y33.right, B v_y33.less, I v_y33.value]), (101, .row 3 1 cI v_d31)] _ (I (max v_y34 v_y35)) [(107, .var 28 [I v_y33.feature, I v_y33.cut, I v_y33.left, I v_y33.right, B v_y33.less, I v_y33.value]), (101, .row 3 1 cI v_d31)] allp from (OpX.y (op_max (.tmp 9 rfl) (.tmp 14 rfl)) rfl)) trivial)) (And.intro (fun _ => (And.intro (show OpY _ _ _ [(22, B (v_y33.feature != (-1))), (5, .ref 107), (0, SL 6 cNode v_t1), (3, .ref 101), (4, I v_i32), (25, .ref 101), (26, .pt 107 2), (27, I v_y33.left), (28, .pt 101 (v_y33.left.toNat * 1)), (29, I v_y34), (30, .ref 101), (31, .pt 107 3), (32, I v_y33.right), (33, .pt 101 (v_y33.right.toNat * 1)), (34, I v_y35), (35, I (max v_y34 v_y35))] [(107, .var 28 [I v_y33.feature, I v_y33.cut, I v_y33.left, I v_y33.right, B v_y33.less, I v_y33.value]), (101, .row 3 1 cI v_d31)] _ (I (w64 (1 + (max v_y34 v_y35)))) [(107, .var 28 [I v_y33.feature, I v_y33.cut, I v_y33.left, I v_y33.right, B v_y33.less, I v_y33.value]), (101, .row 3 1 cI v_d31)] allp from (OpX.y (op_add (Can.int _ _ _) (.tmp 15 rfl)) rfl)) trivial)) (And.intro (fun _ => (And.intro (show OpY _ _ _ [(22, B (v_y33.feature != (-1))), (5, .ref 107), (0, SL 6 cNode v_t1), (3, .ref 101), (4, I v_i32), (23, .ref 101), (24, I v_i32), (25, .ref 101), (26, .pt 107 2), (27, I v_y33.left), (28, .pt 101 (v_y33.left.toNat * 1)), (29, I v_y34), (30, .ref 101), (31, .pt 107 3), (32, I v_y33.right), (33, .pt 101 (v_y33.right.toNat * 1)), (34, I v_y35), (35, I (max v_y34 v_y35)), (36, I (w64 (1 + (max v_y34 v_y35))))] [(107, .var 28 [I v_y33.feature, I v_y33.cut, I v_y33.left, I v_y33.right, B v_y33.less, I v_y33.value]), (101, .row 3 1 cI v_d31)] _ (.pt 101 (v_i32.toNat * 1)) [(107, .var 28 [I v_y33.feature, I v_y33.cut, I v_y33.left, I v_y33.right, B v_y33.less, I v_y33.value]), (101, .row 3 1 cI v_d31)] allp from (OpX.y (op_indexRX hv_y36 (.tmp 5 rfl) 1 rfl (.tmp 6 rfl) u22 s3) rfl)) trivial)) (And.intro (fun hn => (Bool.false_ne_true (hn.symm.trans rfl)).elim) trivial))))))))))))))))
          · exact (And.intro (fun o ho => by obtain rfl := Option.some.inj ho; exact ⟨⟨_, (.raw undef), [0, 1, 2, 3, 4], (OpY.to (show OpY _ _ _ [(22, B (v_y33.feature != (-1))), (5, .ref 107), (0, SL 6 cNode v_t1), (3, .ref 101), (4, I v_i32), (23, .ref 101), (24, I v_i32), (25, .ref 101), (26, .pt 107 2), (27, I v_y33.left), (28, .pt 101 (v_y33.left.toNat * 1)), (29, I v_y34), (30, .ref 101), (31, .pt 107 3), (32, I v_y33.right), (33, .pt 101 (v_y33.right.toNat * 1)), (34, I v_y35), (35, I (max v_y34 v_y35)), (36, I (w64 (1 + (max v_y34 v_y35)))), (37, .pt 101 (v_i32.toNat * 1))] [(107, .var 28 [I v_y33.feature, I v_y33.cut, I v_y33.left, I v_y33.right, B v_y33.less, I v_y33.value]), (101, .row 3 1 cI v_d31)] _ (.raw undef) _ _ from (OpX.y (op_storeR (n := 1) (c := cI) (l := v_d31) (.tmp 19 rfl) 1 rfl _ 0 (w64 (1 + (max v_y34 v_y35))) rfl (ix_spec hv_y36).2 (Nat.le_of_ble_eq_true rfl) rfl (.tmp 18 rfl) s3) rfl)) rfl), rfl, rfl⟩⟩) trivial)
          show Ex _ _ _ [(22, B (v_y33.feature != (-1))), (5, .ref 107), (0, SL 6 cNode v_t1), (3, .ref 101), (4, I v_i32), (23, .ref 101), (24, I v_i32), (25, .ref 101), (26, .pt 107 2), (27, I v_y33.left), (28, .pt 101 (v_y33.left.toNat * 1)), (29, I v_y34), (30, .ref 101), (31, .pt 107 3), (32, I v_y33.right), (33, .pt 101 (v_y33.right.toNat * 1)), (34, I v_y35), (35, I (max v_y34 v_y35)), (36, I (w64 (1 + (max v_y34 v_y35)))), (37, .pt 101 (v_i32.toNat * 1))] [(101, .row 3 1 cI (v_d31.set v_i32.toNat (w64 (1 + (max v_y34 v_y35))))), (107, .var 28 [I v_y33.feature, I v_y33.cut, I v_y33.left, I v_y33.right, B v_y33.less, I v_y33.value])]
          refine Says.ex (S' := [(0, SL 6 cNode v_t1), (3, .ref 101), (4, I v_i32)]) (O' := [(101, .row 3 1 cI (v_d31.set v_i32.toNat (w64 (1 + (max v_y34 v_y35)))))]) (says_pick [2, 3, 4] [0] rfl rfl) ?_
          refine ex_bn ?_
          refine ex_kx (hK37 _ _ ?_)
          refine cw_region ?_
          refine nx_o (op_move (.tmp 2 rfl)) rfl ?_
          refine nx_o (op_sub (.tmp 0 rfl) (Can.int _ _ _)) rfl ?_
          refine nx_k [0, 1, 2, 3] (op_assign (.tmp 0 rfl)) rfl rfl ?_
          show Nx _ _ _ _ _ [(4, I (w64 (v_i32 - 1))), (15, I (w64 (v_i32 - 1))), (14, I v_i32), (0, SL 6 cNode v_t1), (3, .ref 101)] [(101, .row 3 1 cI (v_d31.set v_i32.toNat (w64 (1 + (max v_y34 v_y35)))))]
          refine nx_nil ?_
          refine Says.ex (S' := [(4, I (w64 (v_i32 - 1))), (0, SL 6 cNode v_t1), (3, .ref 101)]) (O' := [(101, .row 3 1 cI (v_d31.set v_i32.toNat (w64 (1 + (max v_y34 v_y35)))))]) (says_pick [0, 3, 4] [0] rfl rfl) ?_
          refine ex_kx ?_
          refine Says.kx (S' := [(0, SL 6 cNode v_t1), (3, .ref 101), (4, I (w64 (v_i32 - 1)))]) (O' := [(101, .row 3 1 cI (v_d31.set v_i32.toNat (w64 (1 + (max v_y34 v_y35)))))]) (says_pick [1, 2, 0] [0] rfl rfl) ?_
          exact hK34 _ _ ⟨(v_d31.set v_i32.toNat (w64 (1 + (max v_y34 v_y35)))), w64 (v_i32 - 1), h, rfl, rfl⟩
        · have h := ite_f hc h
          refine cw_skip ?_
          refine ex_bn ?_
          refine ex_kx (hK37 _ _ ?_)
          refine cw_region ?_
          refine nx_o (op_move (.tmp 4 rfl)) rfl ?_
          refine nx_o (op_sub (.tmp 0 rfl) (Can.int _ _ _)) rfl ?_
          refine nx_k [0, 1, 2, 3, 4, 5] (op_assign (.tmp 0 rfl)) rfl rfl ?_
          show Nx _ _ _ _ _ [(4, I (w64 (v_i32 - 1))), (15, I (w64 (v_i32 - 1))), (14, I v_i32), (22, B (v_y33.feature != (-1))), (5, .ref 107), (0, SL 6 cNode v_t1), (3, .ref 101)] [(107, .var 28 [I v_y33.feature, I v_y33.cut, I v_y33.left, I v_y33.right, B v_y33.less, I v_y33.value]), (101, .row 3 1 cI v_d31)]
          refine nx_nil ?_
          refine Says.ex (S' := [(4, I (w64 (v_i32 - 1))), (0, SL 6 cNode v_t1), (3, .ref 101)]) (O' := [(101, .row 3 1 cI v_d31)]) (says_pick [0, 5, 6] [1] rfl rfl) ?_
          refine ex_kx ?_
          refine Says.kx (S' := [(0, SL 6 cNode v_t1), (3, .ref 101), (4, I (w64 (v_i32 - 1)))]) (O' := [(101, .row 3 1 cI v_d31)]) (says_pick [1, 2, 0] [0] rfl rfl) ?_
          exact hK34 _ _ ⟨v_d31, w64 (v_i32 - 1), h, rfl, rfl⟩
      · have h := ite_f hc h
        refine cw_exit ?_
        refine ex_te ?_
        refine ex_te ?_
        refine ex_be ?_
        refine ex_kx ?_
        refine Says.kx (S' := [(3, .ref 101)]) (O' := [(101, .row 3 1 cI v_d31)]) (says_pick [2] [0] rfl rfl) ?_
        exact hK21 _ _ ⟨v_d31, h, rfl, rfl⟩

theorem f73_fn (N : Nat) (v_a1 : List Node) (v_a2 : Int) (r : Int × (Option Int)) (h : tree_Check N v_a1 v_a2 = some r) : Fn Go.Proofs.Tryd.prog 73 [SL 6 cNode v_a1, I v_a2] [] (.tup [I r.1, Er TE r.2]) [] := by
  unfold tree_Check at h
  refine fn_intro [] fun73 rfl rfl (Nat.le_of_ble_eq_true rfl) rfl rfl (fun w G V => ?_)
  show Cw _ _ _ _ [(0, SL 6 cNode v_a1), (1, I v_a2)] []
  refine cw_seq fun K1 hK1 => ?_
  refine cw_region ?_
  refine nx_o (op_assign (Can.int _ _ _)) rfl ?_
  refine nx_o (op_assign (Can.nilE _ TE)) rfl ?_
  refine nx_nil ?_
  refine Says.ex (S' := [(0, SL 6 cNode v_a1), (1, I v_a2)]) (O' := []) (says_pick [2, 3] [] rfl rfl) ?_
  refine ex_kx (hK1 _ _ ?_)
  refine cw_seq fun K2 hK2 => ?_
  refine cw_block ?_
  refine cw_seq fun K3 hK3 => ?_
  refine cw_region ?_
  refine nx_o (op_move (.tmp 0 rfl)) rfl ?_
  refine nx_o (op_len (.tmp 0 rfl) u29) rfl ?_
  refine nx_o (op_gtr (.tmp 0 rfl) (Can.int _ _ _)) rfl ?_
  refine nx_o (op_assign (.tmp 0 rfl)) rfl ?_
  refine nx_nil ?_
  refine Says.ex (S' := [(12, B (decide ((v_a1.length : Int) > 63))), (0, SL 6 cNode v_a1), (1, I v_a2)]) (O' := []) (says_pick [0, 4, 5] [] rfl rfl) ?_
  refine ex_kx (hK3 _ _ ?_)
  refine cw_cond (b := (decide ((v_a1.length : Int) > 63))) (.tmp 0 rfl) (fun hc => ?_) (fun hc => ?_)
  · have h := ite_t hc h
    refine cw_seq fun K4 hK4 => ?_
    refine cw_region ?_
    refine nx_o (op_mkErr (Can.int _ _ _) u123 (fun _ h => by cases h)) rfl ?_
    refine nx_o (op_assign (Can.int _ _ _)) rfl ?_
    refine nx_o (op_assign (.tmp 1 rfl)) rfl ?_
    refine nx_nil ?_
    refine Says.ex (S' := [(5, Er TE (some 4)), (4, I 0)]) (O' := []) (says_pick [0, 1] [] rfl rfl) ?_
    refine ex_kx (hK4 _ _ ?_)
    refine cw_ret ?_
    refine ex_br ?_
    refine ex_tr ?_
    cases h
    refine Says.ex (S' := [(4, I 0), (5, Er TE (some 4))]) (O' := []) (says_pick [1, 0] [] rfl rfl) ?_
    exact ex_done (.inl rfl) rfl (fun a w G V hs _ hS => resM rfl (.tmp (.tmp 0 rfl) (.tmp (.tmp 1 rfl) .nil)) a w G V hs hS)
  · have h := ite_f hc h
    refine cw_seq fun K5 hK5 => ?_
    refine cw_region ?_
    refine nx_o (op_move (.tmp 1 rfl)) rfl ?_
    refine nx_o (op_len (.tmp 0 rfl) u29) rfl ?_
    refine nx_o (op_eql (.tmp 0 rfl) (Can.int _ _ _)) rfl ?_
    refine nx_o (op_assign (.tmp 0 rfl)) rfl ?_
    refine nx_nil ?_
    refine Says.ex (S' := [(17, B ((v_a1.length : Int) == 0)), (0, SL 6 cNode v_a1), (1, I v_a2)]) (O' := []) (says_pick [0, 5, 6] [] rfl rfl) ?_
    refine ex_kx (hK5 _ _ ?_)
    refine cw_cond (b := ((v_a1.length : Int) == 0)) (.tmp 0 rfl) (fun hc => ?_) (fun hc => ?_)
    · have h := ite_t hc h
      refine cw_seq fun K6 hK6 => ?_
      refine cw_region ?_
      refine nx_o (op_mkErr (Can.int _ _ _) u123 (fun _ h => by cases h)) rfl ?_
      refine nx_o (op_assign (Can.int _ _ _)) rfl ?_
      refine nx_o (op_assign (.tmp 1 rfl)) rfl ?_
      refine nx_nil ?_
      refine Says.ex (S' := [(5, Er TE (some 5)), (4, I 0)]) (O' := []) (says_pick [0, 1] [] rfl rfl) ?_
      refine ex_kx (hK6 _ _ ?_)
      refine cw_ret ?_
      refine ex_br ?_
      refine ex_tr ?_
      cases h
      refine Says.ex (S' := [(4, I 0), (5, Er TE (some 5))]) (O' := []) (says_pick [1, 0] [] rfl rfl) ?_
      exact ex_done (.inl rfl) rfl (fun a w G V hs _ hS => resM rfl (.tmp (.tmp 0 rfl) (.tmp (.tmp 1 rfl) .nil)) a w G V hs hS)
    · have h := ite_f hc h
      refine cw_seq fun K7 hK7 => ?_
      refine cw_region ?_
      refine nx_o (op_move (.tmp 2 rfl)) rfl ?_
      refine nx_o (op_lss (.tmp 0 rfl) (Can.int _ _ _)) rfl ?_
      refine nx_o (op_move (.tmp 0 rfl)) rfl ?_
      refine nx_g (opy_guard (cc := (!(decide (v_a2 < 0)))) (.plain 0 rfl) rfl rfl (fun hg => (op_move (.tmp 5 rfl)))) rfl ?_
      refine nx_g (opy_guard (cc := (!(decide (v_a2 < 0)))) (.plain 1 rfl) rfl rfl (fun hg => (op_gtr (.cd 0 rfl hg) (Can.int _ _ _)))) rfl ?_
      refine nx_o (op_or (.tmp 2 rfl) (fun hp => (.cd 0 rfl (not_t hp)))) rfl ?_
      refine nx_o (op_assign (.tmp 0 rfl)) rfl ?_
      refine nx_nil ?_
      refine Says.ex (S' := [(22, B ((decide (v_a2 < 0)) || (decide (v_a2 > 8)))), (0, SL 6 cNode v_a1), (1, I v_a2)]) (O' := []) (says_pick [0, 8, 9] [] rfl rfl) ?_
      refine ex_kx (hK7 _ _ ?_)
      refine cw_cond (b := ((decide (v_a2 < 0)) || (decide (v_a2 > 8)))) (.tmp 0 rfl) (fun hc => ?_) (fun hc => ?_)
      · have h := ite_t hc h
        refine cw_seq fun K8 hK8 => ?_
        refine cw_region ?_
        refine nx_o (op_mkErr (Can.int _ _ _) u123 (fun _ h => by cases h)) rfl ?_
        refine nx_o (op_assign (Can.int _ _ _)) rfl ?_
        refine nx_o (op_assign (.tmp 1 rfl)) rfl ?_
        refine nx_nil ?_
        refine Says.ex (S' := [(5, Er TE (some 1)), (4, I 0)]) (O' := []) (says_pick [0, 1] [] rfl rfl) ?_
        refine ex_kx (hK8 _ _ ?_)
        refine cw_ret ?_
        refine ex_br ?_
        refine ex_tr ?_
        cases h
        refine Says.ex (S' := [(4, I 0), (5, Er TE (some 1))]) (O' := []) (says_pick [1, 0] [] rfl rfl) ?_
        exact ex_done (.inl rfl) rfl (fun a w G V hs _ hS => resM rfl (.tmp (.tmp 0 rfl) (.tmp (.tmp 1 rfl) .nil)) a w G V hs hS)
      · have h := ite_f hc h
        refine cw_skip ?_
        refine ex_bn ?_
        refine ex_kx (hK2 _ _ ?_)
        refine cw_seq fun K9 hK9 => ?_
        refine cw_region ?_
        refine nx_o (op_move (.tmp 1 rfl)) rfl ?_
        refine nx_o (op_len (.tmp 0 rfl) u29) rfl ?_
        obtain ⟨v_t3, hv_t3, h⟩ := bnd h
        refine nx_op (op_makeX (n := 1) (c := cI) hv_t3 101 (.tmp 0 rfl) (.tmp 0 rfl) u22 i3 (by decide) (by decide) bl22 zI (fun _ => rfl) rfl) rfl ?_
        show Nx _ _ _ _ _ [(32, .ref 101), (31, I (v_a1.length : Int)), (30, SL 6 cNode v_a1), (22, B ((decide (v_a2 < 0)) || (decide (v_a2 > 8)))), (0, SL 6 cNode v_a1), (1, I v_a2)] [(101, .row 3 1 cI v_t3)]
        refine nx_o (op_assign (.tmp 0 rfl)) rfl ?_
        refine nx_nil ?_
        refine Says.ex (S' := [(6, .ref 101), (0, SL 6 cNode v_a1), (1, I v_a2)]) (O' := [(101, .row 3 1 cI v_t3)]) (says_pick [0, 5, 6] [0] rfl rfl) ?_
        refine ex_kx (hK9 _ _ ?_)
        refine cw_join (fun S O => ∃ (v_t26 : List Int), tree_Check_j1 N v_a1 v_t26 = some r ∧ S = [(0, SL 6 cNode v_a1), (6, .ref 101)] ∧ O = [(101, .row 3 1 cI v_t26)]) ?_ (fun K43 hK43 => ?_)
        · rintro S O ⟨v_t26, h, rfl, rfl⟩
          unfold tree_Check_j1 at h
          refine cw_join (fun S O => tree_Check_j2 N v_a1 = some r ∧ S = [(0, SL 6 cNode v_a1)] ∧ O = []) ?_ (fun K65 hK65 => ?_)
          · rintro S O ⟨h, rfl, rfl⟩
            unfold tree_Check_j2 at h
            refine cw_seq fun K66 hK66 => ?_
            refine cw_seq fun K67 hK67 => ?_
            refine cw_region ?_
            refine nx_o (op_move (.tmp 0 rfl)) rfl ?_
            obtain ⟨v_r32, hv_r32, h⟩ := bnd h
            refine nx_o (op_call0 (show Fn Go.Proofs.Tryd.prog 135 [SL 6 cNode v_a1] [] (I v_r32) [] from (f135_fn N v_a1 _ hv_r32)) c135 (.cons (.tmp 0 rfl) .nil)) rfl ?_
            refine nx_o (op_gtr (.tmp 0 rfl) (Can.int _ _ _)) rfl ?_
            refine nx_nil ?_
            refine Says.ex (S' := [(84, B (decide (v_r32 > 10)))]) (O' := []) (says_pick [0] [] rfl rfl) ?_
            refine ex_kx (hK67 _ _ ?_)
            refine cw_cond (b := (decide (v_r32 > 10))) (.tmp 0 rfl) (fun hc => ?_) (fun hc => ?_)
            · have h := ite_t hc h
              refine cw_seq fun K68 hK68 => ?_
              refine cw_region ?_
              refine nx_o (op_mkErr (Can.int _ _ _) u123 (fun _ h => by cases h)) rfl ?_
              refine nx_o (op_assign (Can.int _ _ _)) rfl ?_
              refine nx_o (op_assign (.tmp 1 rfl)) rfl ?_
              refine nx_nil ?_
              refine Says.ex (S' := [(5, Er TE (some 4)), (4, I 0)]) (O' := []) (says_pick [0, 1] [] rfl rfl) ?_
              refine ex_kx (hK68 _ _ ?_)
              refine cw_ret ?_
              refine ex_tr ?_
              cases h
              refine Says.ex (S' := [(4, I 0), (5, Er TE (some 4))]) (O' := []) (says_pick [1, 0] [] rfl rfl) ?_
              exact ex_done (.inl rfl) rfl (fun a w G V hs _ hS => resM rfl (.tmp (.tmp 0 rfl) (.tmp (.tmp 1 rfl) .nil)) a w G V hs hS)
            · have h := ite_f hc h
              refine cw_skip ?_
              refine ex_kx (hK66 _ _ ?_)
              refine cw_seq fun K69 hK69 => ?_
              refine cw_region ?_
              refine nx_o (op_assign (Can.int _ _ _)) rfl ?_
              refine nx_o (op_assign (Can.nilE _ TE)) rfl ?_
              refine nx_nil ?_
              refine Says.ex (S' := [(5, Er TE none), (4, I 0)]) (O' := []) (says_pick [0, 1] [] rfl rfl) ?_
              refine ex_kx (hK69 _ _ ?_)
              refine cw_ret ?_
              cases h
              refine Says.ex (S' := [(4, I 0), (5, Er TE none)]) (O' := []) (says_pick [1, 0] [] rfl rfl) ?_
              exact ex_done (.inl rfl) rfl (fun a w G V hs _ hS => resM rfl (.tmp (.tmp 0 rfl) (.tmp (.tmp 1 rfl) .nil)) a w G V hs hS)
          ·
            refine cw_seq fun K70 hK70 => ?_
            refine cw_region ?_
            refine nx_o (op_move (.tmp 1 rfl)) rfl ?_
            refine nx_o (op_lenR (.tmp 0 rfl) 0 rfl u22) rfl ?_
            refine nx_o (op_move (Can.int _ _ _)) rfl ?_
            refine nx_nil ?_
            refine Says.ex (S' := [(68, I 0), (67, I (v_t26.length : Int)), (66, .ref 101), (0, SL 6 cNode v_a1)]) (O' := [(101, .row 3 1 cI v_t26)]) (says_pick [0, 1, 2, 3] [0] rfl rfl) ?_
            refine ex_kx (hK70 _ _ ?_)
            refine cw_block ?_
            refine Says.cw (S' := [(0, SL 6 cNode v_a1), (66, .ref 101), (67, I (v_t26.length : Int)), (68, I 0)]) (O' := [(101, .row 3 1 cI v_t26)]) (says_pick [3, 2, 1, 0] [0] rfl rfl) ?_
            refine cw_loopJ (fun n S O => ∃ (v_t36 : Int), tree_Check_l1 N v_t26 v_a1 n v_t36 = some r ∧ S = [(0, SL 6 cNode v_a1), (66, .ref 101), (67, I (v_t26.length : Int)), (68, I v_t36)] ∧ O = [(101, .row 3 1 cI v_t26)]) ?_ ?_ N ⟨0, h, rfl, rfl⟩
            · rintro S O ⟨v_t36, h, -, -⟩
              simp [tree_Check_l1] at h
            · rintro n_1 S O ⟨v_t36, h, rfl, rfl⟩ K83 hK83
              rw [tree_Check_l1] at h
              refine cw_seq fun K84 hK84 => ?_
              refine cw_region ?_
              refine nx_o (op_lss (.tmp 3 rfl) (.tmp 2 rfl)) rfl ?_
              refine nx_nil ?_
              refine ex_kx (hK84 _ _ ?_)
              refine cw_seq fun K85 hK85 => ?_
              refine cw_cond (b := (decide (v_t36 < (v_t26.length : Int)))) (.tmp 0 rfl) (fun hc => ?_) (fun hc => ?_)
              · have h := ite_t hc h
                refine cw_skip ?_
                refine ex_kx (hK85 _ _ ?_)
                refine cw_seq fun K86 hK86 => ?_
                refine cw_block ?_
                refine cw_seq fun K87 hK87 => ?_
                refine cw_region ?_
                refine nx_o (op_move (.tmp 4 rfl)) rfl ?_
                obtain ⟨v_y37, hv_y37, h⟩ := bnd h
                refine nx_o (op_indexRX hv_y37 (.tmp 3 rfl) 0 rfl (.tmp 5 rfl) u22 s3) rfl ?_
                refine nx_o (op_loadR (n := 1) (c := cI) (l := v_t26) (.tmp 0 rfl) 0 rfl _ 0 rfl (ix_spec hv_y37).2 rfl a3) rfl ?_
                refine nx_o (op_assign (.tmp 2 rfl)) rfl ?_
                refine nx_o (op_assign (.tmp 1 rfl)) rfl ?_
                refine nx_nil ?_
                refine Says.ex (S' := [(11, I v_y37), (10, I v_t36), (0, SL 6 cNode v_a1), (66, .ref 101), (67, I (v_t26.length : Int)), (68, I v_t36)]) (O' := [(101, .row 3 1 cI v_t26)]) (says_pick [0, 1, 6, 7, 8, 9] [0] rfl rfl) ?_
                refine ex_kx (hK87 _ _ ?_)
                refine cw_seq fun K88 hK88 => ?_
                refine cw_region ?_
                refine nx_o (op_move (.tmp 1 rfl)) rfl ?_
                refine nx_o (op_gtr (.tmp 0 rfl) (Can.int _ _ _)) rfl ?_
                refine nx_o (op_move (.tmp 0 rfl)) rfl ?_
                refine nx_g (opy_guard (cc := (decide (v_t36 > 0))) (.plain 0 rfl) rfl rfl (fun hg => (op_move (.tmp 3 rfl)))) rfl ?_
                refine nx_g (opy_guard (cc := (decide (v_t36 > 0))) (.plain 1 rfl) rfl rfl (fun hg => (op_neq (.cd 0 rfl hg) (Can.int _ _ _)))) rfl ?_
                refine nx_o (op_and (.tmp 2 rfl) (fun hp => (.cd 0 rfl hp))) rfl ?_
                refine nx_nil ?_
                refine Says.ex (S' := [(78, B ((decide (v_t36 > 0)) && (v_y37 != 1))), (10, I v_t36), (0, SL 6 cNode v_a1), (66, .ref 101), (67, I (v_t26.length : Int)), (68, I v_t36)]) (O' := [(101, .row 3 1 cI v_t26)]) (says_pick [0, 7, 8, 9, 10, 11] [0] rfl rfl) ?_
                refine ex_kx (hK88 _ _ ?_)
                refine cw_cond (b := ((decide (v_t36 > 0)) && (v_y37 != 1))) (.tmp 0 rfl) (fun hc => ?_) (fun hc => ?_)
                · have h := ite_t hc h
                  refine cw_seq fun K89 hK89 => ?_
                  refine cw_region ?_
                  refine nx_o (op_move (.tmp 1 rfl)) rfl ?_
                  refine nx_o (op_mkErr (Can.int _ _ _) u123 (fun _ h => by cases h)) rfl ?_
                  refine nx_o (op_assign (.tmp 1 rfl)) rfl ?_
                  refine nx_o (op_assign (.tmp 1 rfl)) rfl ?_
                  refine nx_nil ?_
                  refine Says.ex (S' := [(5, Er TE (some 7)), (4, I v_t36)]) (O' := []) (says_pick [0, 1] [] rfl rfl) ?_
                  refine ex_kx (hK89 _ _ ?_)
                  refine cw_ret ?_
                  refine ex_br ?_
                  refine ex_tr ?_
                  refine ex_tr ?_
                  refine ex_br ?_
                  refine ex_tr ?_
                  cases h
                  refine Says.ex (S' := [(4, I v_t36), (5, Er TE (some 7))]) (O' := []) (says_pick [1, 0] [] rfl rfl) ?_
                  exact ex_done (.inl rfl) rfl (fun a w G V hs _ hS => resM rfl (.tmp (.tmp 0 rfl) (.tmp (.tmp 1 rfl) .nil)) a w G V hs hS)
                · have h := ite_f hc h
                  refine cw_skip ?_
                  refine ex_bn ?_
                  refine ex_kx (hK86 _ _ ?_)
                  refine cw_region ?_
                  refine nx_o (op_add (.tmp 5 rfl) (Can.int _ _ _)) rfl ?_
                  refine nx_k [0, 1, 2, 3, 4, 5] (op_move (.tmp 0 rfl)) rfl rfl ?_
                  show Nx _ _ _ _ _ [(68, I (w64 (v_t36 + 1))), (81, I (w64 (v_t36 + 1))), (78, B ((decide (v_t36 > 0)) && (v_y37 != 1))), (10, I v_t36), (0, SL 6 cNode v_a1), (66, .ref 101), (67, I (v_t26.length : Int))] [(101, .row 3 1 cI v_t26)]
                  refine nx_nil ?_
                  refine Says.ex (S' := [(68, I (w64 (v_t36 + 1))), (0, SL 6 cNode v_a1), (66, .ref 101), (67, I (v_t26.length : Int))]) (O' := [(101, .row 3 1 cI v_t26)]) (says_pick [0, 4, 5, 6] [0] rfl rfl) ?_
                  refine ex_kx ?_
                  refine Says.kx (S' := [(0, SL 6 cNode v_a1), (66, .ref 101), (67, I (v_t26.length : Int)), (68, I (w64 (v_t36 + 1)))]) (O' := [(101, .row 3 1 cI v_t26)]) (says_pick [1, 2, 3, 0] [0] rfl rfl) ?_
                  exact hK83 _ _ ⟨w64 (v_t36 + 1), h, rfl, rfl⟩
              · have h := ite_f hc h
                refine cw_exit ?_
                refine ex_te ?_
                refine ex_te ?_
                refine ex_be ?_
                refine ex_kx ?_
                refine Says.kx (S' := [(0, SL 6 cNode v_a1)]) (O' := []) (says_pick [1] [] rfl rfl) ?_
                exact hK65 _ _ ⟨h, rfl, rfl⟩
        ·
          refine cw_seq fun K90 hK90 => ?_
          refine cw_region ?_
          refine nx_o (op_move (.tmp 1 rfl)) rfl ?_
          refine nx_o (op_len (.tmp 0 rfl) u29) rfl ?_
          refine nx_o (op_move (Can.int _ _ _)) rfl ?_
          refine nx_nil ?_
          refine ex_kx (hK90 _ _ ?_)
          refine cw_block ?_
          refine Says.cw (S' := [(0, SL 6 cNode v_a1), (1, I v_a2), (6, .ref 101), (33, SL 6 cNode v_a1), (34, I (v_a1.length : Int)), (35, I 0)]) (O' := [(101, .row 3 1 cI v_t3)]) (says_pick [4, 5, 3, 2, 1, 0] [0] rfl rfl) ?_
          refine cw_loopJ (fun n S O => ∃ (v_t52 : List Int) (v_t53 : Int), tree_Check_l2 N v_a1 v_a2 n v_t52 v_t53 = some r ∧ S = [(0, SL 6 cNode v_a1), (1, I v_a2), (6, .ref 101), (33, SL 6 cNode v_a1), (34, I (v_a1.length : Int)), (35, I v_t53)] ∧ O = [(101, .row 3 1 cI v_t52)]) ?_ ?_ N ⟨v_t3, 0, h, rfl, rfl⟩
          · rintro S O ⟨v_t52, v_t53, h, -, -⟩
            simp [tree_Check_l2] at h
          · rintro n_2 S O ⟨v_t52, v_t53, h, rfl, rfl⟩ K111 hK111
            rw [tree_Check_l2] at h
            refine cw_seq fun K112 hK112 => ?_
            refine cw_region ?_
            refine nx_o (op_lss (.tmp 5 rfl) (.tmp 4 rfl)) rfl ?_
            refine nx_nil ?_
            refine ex_kx (hK112 _ _ ?_)
            refine cw_seq fun K113 hK113 => ?_
            refine cw_cond (b := (decide (v_t53 < (v_a1.length : Int)))) (.tmp 0 rfl) (fun hc => ?_) (fun hc => ?_)
            · have h := ite_t hc h
              refine cw_skip ?_
              refine ex_kx (hK113 _ _ ?_)
              refine cw_seq fun K114 hK114 => ?_
              refine cw_block ?_
              refine cw_seq fun K115 hK115 => ?_
              refine cw_region ?_
              refine nx_o (op_move (.tmp 6 rfl)) rfl ?_
              obtain ⟨v_y54, hv_y54, h⟩ := bnd h
              refine nx_o (op_indexX hv_y54 (.tmp 5 rfl) (.tmp 7 rfl) u29 s28) rfl ?_
              refine nx_o (op_loadA (cNode v_y54) (.tmp 0 rfl) a28 s28 rfl) rfl ?_
              refine nx_op (op_alloc 107 (cNode (Node.mk 0 0 0 0 false 0)) za28 zNode rfl) rfl ?_
              show Nx _ _ _ _ _ [(8, .ref 107), (39, .agg (cNode v_y54)), (38, .ptr (cNode v_y54)), (37, I v_t53), (36, B (decide (v_t53 < (v_a1.length : Int)))), (0, SL 6 cNode v_a1), (1, I v_a2), (6, .ref 101), (33, SL 6 cNode v_a1), (34, I (v_a1.length : Int)), (35, I v_t53)] [(107, .var 28 [I 0, I 0, I 0, I 0, B false, I 0]), (101, .row 3 1 cI v_t52)]
              refine nx_o (op_assign (.tmp 3 rfl)) rfl ?_
              refine nx_o0 (op_storeVA (its := (cNode v_y54)) (.tmp 1 rfl) 0 rfl (.agg (.tmp 2 rfl)) rfl s28) ?_
              show Nx _ _ _ _ _ [(7, I v_t53), (8, .ref 107), (39, .agg (cNode v_y54)), (38, .ptr (cNode v_y54)), (37, I v_t53), (36, B (decide (v_t53 < (v_a1.length : Int)))), (0, SL 6 cNode v_a1), (1, I v_a2), (6, .ref 101), (33, SL 6 cNode v_a1), (34, I (v_a1.length : Int)), (35, I v_t53)] [(107, .var 28 [I v_y54.feature, I v_y54.cut, I v_y54.left, I v_y54.right, B v_y54.less, I v_y54.value]), (101, .row 3 1 cI v_t52)]
              refine nx_nil ?_
              refine Says.ex (S' := [(7, I v_t53), (8, .ref 107), (0, SL 6 cNode v_a1), (1, I v_a2), (6, .ref 101), (33, SL 6 cNode v_a1), (34, I (v_a1.length : Int)), (35, I v_t53)]) (O' := [(107, .var 28 [I v_y54.feature, I v_y54.cut, I v_y54.left, I v_y54.right, B v_y54.less, I v_y54.value]), (101, .row 3 1 cI v_t52)]) (says_pick [0, 1, 6, 7, 8, 9, 10, 11] [0, 1] rfl rfl) ?_
              refine ex_kx (hK115 _ _ ?_)
              refine cw_seq fun K116 hK116 => ?_
              refine cw_seq fun K117 hK117 => ?_
              refine cw_region ?_
              refine nx_o (op_move (.tmp 2 rfl)) rfl ?_
              refine nx_o (op_move (.tmp 1 rfl)) rfl ?_
              refine nx_o (op_move (.tmp 5 rfl)) rfl ?_
              obtain ⟨v_r55, hv_r55, h⟩ := bnd h
              refine nx_o (op_call0 (show Fn Go.Proofs.Tryd.prog 134 [SL 6 cNode v_a1, I v_t53, I v_a2] [] (Er TE v_r55) [] from (f134_fn N v_a1 v_t53 v_a2 _ hv_r55)) c134 (.cons (.tmp 2 rfl) (.cons (.tmp 1 rfl) (.cons (.tmp 0 rfl) .nil)))) rfl ?_
              refine nx_o (op_assign (.tmp 0 rfl)) rfl ?_
              refine nx_nil ?_
              refine Says.ex (S' := [(9, Er TE v_r55), (7, I v_t53), (8, .ref 107), (0, SL 6 cNode v_a1), (1, I v_a2), (6, .ref 101), (33, SL 6 cNode v_a1), (34, I (v_a1.length : Int)), (35, I v_t53)]) (O' := [(107, .var 28 [I v_y54.feature, I v_y54.cut, I v_y54.left, I v_y54.right, B v_y54.less, I v_y54.value]), (101, .row 3 1 cI v_t52)]) (says_pick [0, 5, 6, 7, 8, 9, 10, 11, 12] [0, 1] rfl rfl) ?_
              refine ex_kx (hK117 _ _ ?_)
              refine cw_seq fun K118 hK118 => ?_
              refine cw_region ?_
              refine nx_o (op_move (.tmp 0 rfl)) rfl ?_
              refine nx_o (op_neqNil (.tmp 0 rfl) u32) rfl ?_
              refine nx_nil ?_
              refine Says.ex (S' := [(45, B v_r55.isSome), (9, Er TE v_r55), (7, I v_t53), (8, .ref 107), (0, SL 6 cNode v_a1), (1, I v_a2), (6, .ref 101), (33, SL 6 cNode v_a1), (34, I (v_a1.length : Int)), (35, I v_t53)]) (O' := [(107, .var 28 [I v_y54.feature, I v_y54.cut, I v_y54.left, I v_y54.right, B v_y54.less, I v_y54.value]), (101, .row 3 1 cI v_t52)]) (says_pick [0, 2, 3, 4, 5, 6, 7, 8, 9, 10] [0, 1] rfl rfl) ?_
              refine ex_kx (hK118 _ _ ?_)
              refine cw_cond (b := v_r55.isSome) (.tmp 0 rfl) (fun hc => ?_) (fun hc => ?_)
              · have h := ite_t hc h
                refine cw_seq fun K119 hK119 => ?_
                refine cw_region ?_
                refine nx_o (op_move (.tmp 2 rfl)) rfl ?_
                refine nx_o (op_move (.tmp 2 rfl)) rfl ?_
                refine nx_o (op_assign (.tmp 1 rfl)) rfl ?_
                refine nx_o (op_assign (.tmp 1 rfl)) rfl ?_
                refine nx_nil ?_
                refine Says.ex (S' := [(5, Er TE v_r55), (4, I v_t53)]) (O' := []) (says_pick [0, 1] [] rfl rfl) ?_
                refine ex_kx (hK119 _ _ ?_)
                refine cw_ret ?_
                refine ex_tr ?_
                refine ex_br ?_
                refine ex_tr ?_
                refine ex_tr ?_
                refine ex_br ?_
                refine ex_tr ?_
                cases h
                refine Says.ex (S' := [(4, I v_t53), (5, Er TE v_r55)]) (O' := []) (says_pick [1, 0] [] rfl rfl) ?_
                exact ex_done (.inl rfl) rfl (fun a w G V hs _ hS => resM rfl (.tmp (.tmp 0 rfl) (.tmp (.tmp 1 rfl) .nil)) a w G V hs hS)
              · have h := ite_f hc h
                refine cw_skip ?_
                refine ex_kx (hK116 _ _ ?_)
                refine cw_seq fun K120 hK120 => ?_
                refine cw_region ?_
                refine nx_o (op_fieldVar (.tmp 3 rfl) 0 rfl o28_0) rfl ?_
                refine nx_o (op_loadV (.tmp 0 rfl) 0 rfl rfl a3) rfl ?_
                refine nx_o (op_neq (.tmp 0 rfl) (Can.int _ _ _)) rfl ?_
                refine nx_nil ?_
                refine Says.ex (S' := [(50, B (v_y54.feature != (-1))), (8, .ref 107), (0, SL 6 cNode v_a1), (1, I v_a2), (6, .ref 101), (33, SL 6 cNode v_a1), (34, I (v_a1.length : Int)), (35, I v_t53)]) (O' := [(107, .var 28 [I v_y54.feature, I v_y54.cut, I v_y54.left, I v_y54.right, B v_y54.less, I v_y54.value]), (101, .row 3 1 cI v_t52)]) (says_pick [0, 6, 7, 8, 9, 10, 11, 12] [0, 1] rfl rfl) ?_
                refine ex_kx (hK120 _ _ ?_)
                refine cw_cond (b := (v_y54.feature != (-1))) (.tmp 0 rfl) (fun hc => ?_) (fun hc => ?_)
                · have h := ite_t hc h
                  refine cw_seq fun K121 hK121 => ?_
                  refine cw_region ?_
                  refine nx_o (op_move (.tmp 4 rfl)) rfl ?_
                  refine nx_o (op_fieldVar (.tmp 2 rfl) 0 rfl o28_2) rfl ?_
                  refine nx_o (op_loadV (.tmp 0 rfl) 0 rfl rfl a3) rfl ?_
                  obtain ⟨v_y56, hv_y56, h⟩ := bnd h
                  refine nx_o (op_indexRX hv_y56 (.tmp 2 rfl) 1 rfl (.tmp 0 rfl) u22 s3) rfl ?_
                  refine nx_o (op_loadR (n := 1) (c := cI) (l := v_t52) (.tmp 0 rfl) 1 rfl _ 0 rfl (ix_spec hv_y56).2 rfl a3) rfl ?_
                  refine nx_o (op_add (.tmp 0 rfl) (Can.int _ _ _)) rfl ?_
                  obtain ⟨v_y57, hv_y57, h⟩ := bnd h
                  refine nx_o (op_indexRX hv_y57 (.tmp 5 rfl) 1 rfl (.tmp 3 rfl) u22 s3) rfl ?_
                  refine nx_o0 (op_storeR (n := 1) (c := cI) (l := v_t52) (.tmp 0 rfl) 1 rfl _ 0 (w64 (v_y56 + 1)) rfl (ix_spec hv_y57).2 (Nat.le_of_ble_eq_true rfl) rfl (.tmp 1 rfl) s3) ?_
                  show Nx _ _ _ _ _ [(57, .pt 101 (v_y54.left.toNat * 1)), (56, I (w64 (v_y56 + 1))), (55, I v_y56), (54, .pt 101 (v_y54.left.toNat * 1)), (53, I v_y54.left), (52, .pt 107 2), (51, .ref 101), (50, B (v_y54.feature != (-1))), (8, .ref 107), (0, SL 6 cNode v_a1), (1, I v_a2), (6, .ref 101), (33, SL 6 cNode v_a1), (34, I (v_a1.length : Int)), (35, I v_t53)] [(101, .row 3 1 cI (v_t52.set v_y54.left.toNat (w64 (v_y56 + 1)))), (107, .var 28 [I v_y54.feature, I v_y54.cut, I v_y54.left, I v_y54.right, B v_y54.less, I v_y54.value])]
                  refine nx_nil ?_
                  refine Says.ex (S' := [(8, .ref 107), (0, SL 6 cNode v_a1), (1, I v_a2), (6, .ref 101), (33, SL 6 cNode v_a1), (34, I (v_a1.length : Int)), (35, I v_t53)]) (O' := [(101, .row 3 1 cI (v_t52.set v_y54.left.toNat (w64 (v_y56 + 1)))), (107, .var 28 [I v_y54.feature, I v_y54.cut, I v_y54.left, I v_y54.right, B v_y54.less, I v_y54.value])]) (says_pick [8, 9, 10, 11, 12, 13, 14] [0, 1] rfl rfl) ?_
                  refine ex_kx (hK121 _ _ ?_)
                  refine cw_region ?_
                  refine nx_o (op_move (.tmp 3 rfl)) rfl ?_
                  refine nx_o (op_fieldVar (.tmp 1 rfl) 1 rfl o28_3) rfl ?_
                  refine nx_o (op_loadV (.tmp 0 rfl) 1 rfl rfl a3) rfl ?_
                  obtain ⟨v_y58, hv_y58, h⟩ := bnd h
                  refine nx_o (op_indexRX hv_y58 (.tmp 2 rfl) 0 rfl (.tmp 0 rfl) u22 s3) rfl ?_
                  refine nx_o (op_loadR (n := 1) (c := cI) (l := (v_t52.set v_y54.left.toNat (w64 (v_y56 + 1)))) (.tmp 0 rfl) 0 rfl _ 0 rfl (ix_spec hv_y58).2 rfl a3) rfl ?_
                  refine nx_o (op_add (.tmp 0 rfl) (Can.int _ _ _)) rfl ?_
                  obtain ⟨v_y59, hv_y59, h⟩ := bnd h
                  refine nx_o (op_indexRX hv_y59 (.tmp 5 rfl) 0 rfl (.tmp 3 rfl) u22 s3) rfl ?_
                  refine nx_o0 (op_storeR (n := 1) (c := cI) (l := (v_t52.set v_y54.left.toNat (w64 (v_y56 + 1)))) (.tmp 0 rfl) 0 rfl _ 0 (w64 (v_y58 + 1)) rfl (ix_spec hv_y59).2 (Nat.le_of_ble_eq_true rfl) rfl (.tmp 1 rfl) s3) ?_
                  show Nx _ _ _ _ _ [(64, .pt 101 (v_y54.right.toNat * 1)), (63, I (w64 (v_y58 + 1))), (62, I v_y58), (61, .pt 101 (v_y54.right.toNat * 1)), (60, I v_y54.right), (59, .pt 107 3), (58, .ref 101), (8, .ref 107), (0, SL 6 cNode v_a1), (1, I v_a2), (6, .ref 101), (33, SL 6 cNode v_a1), (34, I (v_a1.length : Int)), (35, I v_t53)] [(101, .row 3 1 cI ((v_t52.set v_y54.left.toNat (w64 (v_y56 + 1))).set v_y54.right.toNat (w64 (v_y58 + 1)))), (107, .var 28 [I v_y54.feature, I v_y54.cut, I v_y54.left, I v_y54.right, B v_y54.less, I v_y54.value])]
                  refine nx_nil ?_
                  refine Says.ex (S' := [(0, SL 6 cNode v_a1), (1, I v_a2), (6, .ref 101), (33, SL 6 cNode v_a1), (34, I (v_a1.length : Int)), (35, I v_t53)]) (O' := [(101, .row 3 1 cI ((v_t52.set v_y54.left.toNat (w64 (v_y56 + 1))).set v_y54.right.toNat (w64 (v_y58 + 1))))]) (says_pick [8, 9, 10, 11, 12, 13] [0] rfl rfl) ?_
                  refine ex_bn ?_
                  refine ex_kx (hK114 _ _ ?_)
                  refine cw_region ?_
                  refine nx_o (op_add (.tmp 5 rfl) (Can.int _ _ _)) rfl ?_
                  refine nx_k [0, 1, 2, 3, 4, 5] (op_move (.tmp 0 rfl)) rfl rfl ?_
                  show Nx _ _ _ _ _ [(35, I (w64 (v_t53 + 1))), (65, I (w64 (v_t53 + 1))), (0, SL 6 cNode v_a1), (1, I v_a2), (6, .ref 101), (33, SL 6 cNode v_a1), (34, I (v_a1.length : Int))] [(101, .row 3 1 cI ((v_t52.set v_y54.left.toNat (w64 (v_y56 + 1))).set v_y54.right.toNat (w64 (v_y58 + 1))))]
                  refine nx_nil ?_
                  refine Says.ex (S' := [(35, I (w64 (v_t53 + 1))), (0, SL 6 cNode v_a1), (1, I v_a2), (6, .ref 101), (33, SL 6 cNode v_a1), (34, I (v_a1.length : Int))]) (O' := [(101, .row 3 1 cI ((v_t52.set v_y54.left.toNat (w64 (v_y56 + 1))).set v_y54.right.toNat (w64 (v_y58 + 1))))]) (says_pick [0, 2, 3, 4, 5, 6] [0] rfl rfl) ?_
                  refine ex_kx ?_
                  refine Says.kx (S' := [(0, SL 6 cNode v_a1), (1, I v_a2), (6, .ref 101), (33, SL 6 cNode v_a1), (34, I (v_a1.length : Int)), (35, I (w64 (v_t53 + 1)))]) (O' := [(101, .row 3 1 cI ((v_t52.set v_y54.left.toNat (w64 (v_y56 + 1))).set v_y54.right.toNat (w64 (v_y58 + 1))))]) (says_pick [1, 2, 3, 4, 5, 0] [0] rfl rfl) ?_
                  exact hK111 _ _ ⟨((v_t52.set v_y54.left.toNat (w64 (v_y56 + 1))).set v_y54.right.toNat (w64 (v_y58 + 1))), w64 (v_t53 + 1), h, rfl, rfl⟩
                · have h := ite_f hc h
                  refine cw_skip ?_
                  refine ex_bn ?_
                  refine ex_kx (hK114 _ _ ?_)
                  refine cw_region ?_
                  refine nx_o (op_add (.tmp 7 rfl) (Can.int _ _ _)) rfl ?_
                  refine nx_k [0, 1, 2, 3, 4, 5, 6, 7] (op_move (.tmp 0 rfl)) rfl rfl ?_
                  show Nx _ _ _ _ _ [(35, I (w64 (v_t53 + 1))), (65, I (w64 (v_t53 + 1))), (50, B (v_y54.feature != (-1))), (8, .ref 107), (0, SL 6 cNode v_a1), (1, I v_a2), (6, .ref 101), (33, SL 6 cNode v_a1), (34, I (v_a1.length : Int))] [(107, .var 28 [I v_y54.feature, I v_y54.cut, I v_y54.left, I v_y54.right, B v_y54.less, I v_y54.value]), (101, .row 3 1 cI v_t52)]
                  refine nx_nil ?_
                  refine Says.ex (S' := [(35, I (w64 (v_t53 + 1))), (0, SL 6 cNode v_a1), (1, I v_a2), (6, .ref 101), (33, SL 6 cNode v_a1), (34, I (v_a1.length : Int))]) (O' := [(101, .row 3 1 cI v_t52)]) (says_pick [0, 4, 5, 6, 7, 8] [1] rfl rfl) ?_
                  refine ex_kx ?_
                  refine Says.kx (S' := [(0, SL 6 cNode v_a1), (1, I v_a2), (6, .ref 101), (33, SL 6 cNode v_a1), (34, I (v_a1.length : Int)), (35, I (w64 (v_t53 + 1)))]) (O' := [(101, .row 3 1 cI v_t52)]) (says_pick [1, 2, 3, 4, 5, 0] [0] rfl rfl) ?_
                  exact hK111 _ _ ⟨v_t52, w64 (v_t53 + 1), h, rfl, rfl⟩
            · have h := ite_f hc h
              refine cw_exit ?_
              refine ex_te ?_
              refine ex_te ?_
              refine ex_be ?_
              refine ex_kx ?_
              refine Says.kx (S' := [(0, SL 6 cNode v_a1), (6, .ref 101)]) (O' := [(101, .row 3 1 cI v_t52)]) (says_pick [1, 3] [0] rfl rfl) ?_
              exact hK43 _ _ ⟨v_t52, h, rfl, rfl⟩

theorem f89_fn (N : Nat) (v_t1 : List Node) (v_l2 : List Sample) (r : Option Int) (h : grow_Ready N v_t1 v_l2 = some r) : Fn Go.Proofs.Tryd.prog 89 [SL 6 cNode v_t1, SL 2 cSample v_l2] [] (Er TE r) [] := by
  unfold grow_Ready at h
  refine fn_intro [] fun89 rfl rfl (Nat.le_of_ble_eq_true rfl) rfl rfl (fun w G V => ?_)
  show Cw _ _ _ _ [(0, SL 6 cNode v_t1), (1, SL 2 cSample v_l2)] []
  refine cw_seq fun K1 hK1 => ?_
  refine cw_region ?_
  refine nx_o (op_assign (Can.nilE _ TE)) rfl ?_
  refine nx_nil ?_
  refine Says.ex (S' := [(0, SL 6 cNode v_t1), (1, SL 2 cSample v_l2)]) (O' := []) (says_pick [1, 2] [] rfl rfl) ?_
  refine ex_kx (hK1 _ _ ?_)
  refine cw_seq fun K2 hK2 => ?_
  refine cw_seq fun K3 hK3 => ?_
  refine cw_region ?_
  refine nx_o (op_move (.tmp 1 rfl)) rfl ?_
  refine nx_o (op_len (.tmp 0 rfl) u50) rfl ?_
  refine nx_o (op_eql (.tmp 0 rfl) (Can.int _ _ _)) rfl ?_
  refine nx_nil ?_
  refine Says.ex (S' := [(12, B ((v_l2.length : Int) == 0)), (0, SL 6 cNode v_t1), (1, SL 2 cSample v_l2)]) (O' := []) (says_pick [0, 3, 4] [] rfl rfl) ?_
  refine ex_kx (hK3 _ _ ?_)
  refine cw_cond (b := ((v_l2.length : Int) == 0)) (.tmp 0 rfl) (fun hc => ?_) (fun hc => ?_)
  · have h := ite_t hc h
    refine cw_seq fun K4 hK4 => ?_
    refine cw_region ?_
    refine nx_o (op_mkErr (Can.int _ _ _) u123 (fun _ h => by cases h)) rfl ?_
    refine nx_o (op_assign (.tmp 0 rfl)) rfl ?_
    refine nx_nil ?_
    refine Says.ex (S' := [(4, Er TE (some 5))]) (O' := []) (says_pick [0] [] rfl rfl) ?_
    refine ex_kx (hK4 _ _ ?_)
    refine cw_ret ?_
    refine ex_tr ?_
    cases h
    exact ex_done (.inl rfl) rfl (fun a w G V hs _ hS => res1 rfl (.tmp 0 rfl) a w G V hS)
  · have h := ite_f hc h
    refine cw_skip ?_
    refine ex_kx (hK2 _ _ ?_)
    refine cw_seq fun K5 hK5 => ?_
    refine cw_region ?_
    refine nx_o (op_move (.tmp 2 rfl)) rfl ?_
    obtain ⟨v_y3, hv_y3, h⟩ := bnd h
    refine nx_o (op_indexX hv_y3 (.tmp 0 rfl) (Can.int _ _ _) u50 s146) rfl ?_
    refine nx_o (op_field (.tmp 0 rfl) o146_0) rfl ?_
    refine nx_o (op_load1 (.tmp 0 rfl) a22) rfl ?_
    refine nx_o (op_len (.tmp 0 rfl) u22) rfl ?_
    refine nx_o (op_assign (.tmp 0 rfl)) rfl ?_
    refine nx_nil ?_
    refine Says.ex (S' := [(5, I (v_y3.row.length : Int)), (0, SL 6 cNode v_t1), (1, SL 2 cSample v_l2)]) (O' := []) (says_pick [0, 7, 8] [] rfl rfl) ?_
    refine ex_kx (hK5 _ _ ?_)
    refine cw_seq fun K6 hK6 => ?_
    refine cw_seq fun K7 hK7 => ?_
    refine cw_region ?_
    refine nx_o (op_move (.tmp 1 rfl)) rfl ?_
    refine nx_o (op_move (.tmp 1 rfl)) rfl ?_
    obtain ⟨v_r4, hv_r4, h⟩ := bnd h
    refine nx_o (op_call0 (show Fn Go.Proofs.Tryd.prog 73 [SL 6 cNode v_t1, I (v_y3.row.length : Int)] [] (.tup [I v_r4.1, Er TE v_r4.2]) [] from (f73_fn N v_t1 (v_y3.row.length : Int) _ hv_r4)) c73 (.cons (.tmp 1 rfl) (.cons (.tmp 0 rfl) .nil))) rfl ?_
    refine nx_o (op_move (.tmp 0 rfl)) rfl ?_
    refine nx_o (op_extract (.tmp 0 rfl) rfl) rfl ?_
    refine nx_o (op_extract (.tmp 1 rfl) rfl) rfl ?_
    refine nx_o (op_assign (.tmp 1 rfl)) rfl ?_
    refine nx_o (op_assign (.tmp 1 rfl)) rfl ?_
    refine nx_nil ?_
    refine Says.ex (S' := [(7, Er TE v_r4.2), (5, I (v_y3.row.length : Int)), (1, SL 2 cSample v_l2)]) (O' := []) (says_pick [0, 8, 10] [] rfl rfl) ?_
    refine ex_kx (hK7 _ _ ?_)
    refine cw_seq fun K8 hK8 => ?_
    refine cw_region ?_
    refine nx_o (op_move (.tmp 0 rfl)) rfl ?_
    refine nx_o (op_neqNil (.tmp 0 rfl) u32) rfl ?_
    refine nx_nil ?_
    refine Says.ex (S' := [(26, B v_r4.2.isSome), (7, Er TE v_r4.2), (5, I (v_y3.row.length : Int)), (1, SL 2 cSample v_l2)]) (O' := []) (says_pick [0, 2, 3, 4] [] rfl rfl) ?_
    refine ex_kx (hK8 _ _ ?_)
    refine cw_cond (b := v_r4.2.isSome) (.tmp 0 rfl) (fun hc => ?_) (fun hc => ?_)
    · have h := ite_t hc h
      refine cw_seq fun K9 hK9 => ?_
      refine cw_region ?_
      refine nx_o (op_move (.tmp 1 rfl)) rfl ?_
      refine nx_o (op_assign (.tmp 0 rfl)) rfl ?_
      refine nx_nil ?_
      refine Says.ex (S' := [(4, Er TE v_r4.2)]) (O' := []) (says_pick [0] [] rfl rfl) ?_
      refine ex_kx (hK9 _ _ ?_)
      refine cw_ret ?_
      refine ex_tr ?_
      cases h
      exact ex_done (.inl rfl) rfl (fun a w G V hs _ hS => res1 rfl (.tmp 0 rfl) a w G V hS)
    · have h := ite_f hc h
      refine cw_skip ?_
      refine ex_kx (hK6 _ _ ?_)
      refine cw_seq fun K10 hK10 => ?_
      refine cw_region ?_
      refine nx_o (op_move (.tmp 3 rfl)) rfl ?_
      refine nx_o (op_move (.tmp 3 rfl)) rfl ?_
      obtain ⟨v_r5, hv_r5, h⟩ := bnd h
      refine nx_o (op_call0 (show Fn Go.Proofs.Tryd.prog 42 [SL 2 cSample v_l2, I (v_y3.row.length : Int)] [] (.tup [I v_r5.1, Er TE v_r5.2]) [] from (f42_fn N v_l2 (v_y3.row.length : Int) _ hv_r5)) c42 (.cons (.tmp 1 rfl) (.cons (.tmp 0 rfl) .nil))) rfl ?_
      refine nx_o (op_move (.tmp 0 rfl)) rfl ?_
      refine nx_o (op_extract (.tmp 0 rfl) rfl) rfl ?_
      refine nx_o (op_extract (.tmp 1 rfl) rfl) rfl ?_
      refine nx_o (op_assign (.tmp 1 rfl)) rfl ?_
      refine nx_o (op_assign (.tmp 1 rfl)) rfl ?_
      refine nx_nil ?_
      refine Says.ex (S' := [(9, Er TE v_r5.2)]) (O' := []) (says_pick [0] [] rfl rfl) ?_
      refine ex_kx (hK10 _ _ ?_)
      refine cw_seq fun K11 hK11 => ?_
      refine cw_region ?_
      refine nx_o (op_move (.tmp 0 rfl)) rfl ?_
      refine nx_o (op_assign (.tmp 0 rfl)) rfl ?_
      refine nx_nil ?_
      refine Says.ex (S' := [(4, Er TE v_r5.2)]) (O' := []) (says_pick [0] [] rfl rfl) ?_
      refine ex_kx (hK11 _ _ ?_)
      refine cw_ret ?_
      cases h
      exact ex_done (.inl rfl) rfl (fun a w G V hs _ hS => res1 rfl (.tmp 0 rfl) a w G V hS)

end Go.Dl
