/- Printed by wip/gen: the calls compute it. -/
import Derived.Test.YtbalmknhjokgaaaDoorDW0
set_option linter.unusedVariables false
set_option maxRecDepth 4000
set_option maxHeartbeats 2000000
namespace Go.Dl
open Go

theorem f13_fn (N : Nat) (v_err1 : Option Int) (v_e2 : Int) (r : Bool) (h : orchsame_Error N v_err1 v_e2 = some r) : Fn Go.Proofs.Tryd.prog 13 [Er TE v_err1, I v_e2] [] (B r) [] := by
  unfold orchsame_Error at h
  refine fn_intro [] fun13 rfl rfl (Nat.le_of_ble_eq_true rfl) rfl rfl (fun w G V => ?_)
  show Cw _ _ _ _ [(0, Er TE v_err1), (1, I v_e2)] []
  refine cw_seq fun K1 hK1 => ?_
  refine cw_region ?_
  refine nx_o (op_assign (Can.bool _ _)) rfl ?_
  refine nx_nil ?_
  refine Says.ex (S' := [(0, Er TE v_err1), (1, I v_e2)]) (O' := []) (says_pick [1, 2] [] rfl rfl) ?_
  refine ex_kx (hK1 _ _ ?_)
  refine cw_seq fun K2 hK2 => ?_
  refine cw_region ?_
  refine nx_o (op_move (.tmp 0 rfl)) rfl ?_
  obtain ⟨v_r3, hv_r3, h⟩ := bnd h
  refine nx_o (op_call0 (show Fn Go.Proofs.Tryd.prog 68 [Er TE v_err1] [] (I v_r3) [] from (f68_fn N v_err1 _ hv_r3)) c68 (.cons (.tmp 0 rfl) .nil)) rfl ?_
  refine nx_o (op_assign (.tmp 0 rfl)) rfl ?_
  refine nx_nil ?_
  refine Says.ex (S' := [(5, I v_r3), (1, I v_e2)]) (O' := []) (says_pick [0, 4] [] rfl rfl) ?_
  refine ex_kx (hK2 _ _ ?_)
  refine cw_seq fun K3 hK3 => ?_
  refine cw_region ?_
  refine nx_o (op_move (.tmp 0 rfl)) rfl ?_
  refine nx_o (op_move (.tmp 2 rfl)) rfl ?_
  refine nx_o (op_eql (.tmp 1 rfl) (.tmp 0 rfl)) rfl ?_
  refine nx_o (op_assign (.tmp 0 rfl)) rfl ?_
  refine nx_nil ?_
  refine Says.ex (S' := [(4, B (v_r3 == v_e2))]) (O' := []) (says_pick [0] [] rfl rfl) ?_
  refine ex_kx (hK3 _ _ ?_)
  refine cw_ret ?_
  cases h
  exact ex_done (.inl rfl) rfl (fun a w G V hs _ hS => res1 rfl (.tmp 0 rfl) a w G V hS)

theorem f99_fn (N : Nat) (v_l1 : List Sample) (v_feature2 : Int) (v_cut3 : Int) (v_below4 : Bool) (r : Int × Int) (h : orchref2_sum N v_l1 v_feature2 v_cut3 v_below4 = some r) : Fn Go.Proofs.Tryd.prog 99 [SL 2 cSample v_l1, I v_feature2, I v_cut3, B v_below4] [] (.tup [I r.1, I r.2]) [] := by
  unfold orchref2_sum at h
  refine fn_intro [] fun99 rfl rfl (Nat.le_of_ble_eq_true rfl) rfl rfl (fun w G V => ?_)
  show Cw _ _ _ _ [(0, SL 2 cSample v_l1), (1, I v_feature2), (2, I v_cut3), (3, B v_below4)] []
  refine cw_seq fun K1 hK1 => ?_
  refine cw_region ?_
  refine nx_o (op_assign (Can.int _ _ _)) rfl ?_
  refine nx_o (op_assign (Can.int _ _ _)) rfl ?_
  refine nx_nil ?_
  refine Says.ex (S' := [(0, SL 2 cSample v_l1), (1, I v_feature2), (2, I v_cut3), (3, B v_below4)]) (O' := []) (says_pick [2, 3, 4, 5] [] rfl rfl) ?_
  refine ex_kx (hK1 _ _ ?_)
  refine cw_seq fun K2 hK2 => ?_
  refine cw_region ?_
  refine nx_o (op_assign (Can.int _ _ _)) rfl ?_
  refine nx_nil ?_
  refine ex_kx (hK2 _ _ ?_)
  refine cw_seq fun K3 hK3 => ?_
  refine cw_region ?_
  refine nx_o (op_assign (Can.int _ _ _)) rfl ?_
  refine nx_nil ?_
  refine ex_kx (hK3 _ _ ?_)
  refine cw_join (fun S O => ∃ (v_s20 : Int) (v_n21 : Int), orchref2_sum_j1 N v_s20 v_n21 = some r ∧ S = [(10, I v_s20), (11, I v_n21)] ∧ O = []) ?_ (fun K22 hK22 => ?_)
  · rintro S O ⟨v_s20, v_n21, h, rfl, rfl⟩
    unfold orchref2_sum_j1 at h
    refine cw_seq fun K23 hK23 => ?_
    refine cw_region ?_
    refine nx_o (op_move (.tmp 0 rfl)) rfl ?_
    refine nx_o (op_move (.tmp 2 rfl)) rfl ?_
    refine nx_o (op_assign (.tmp 1 rfl)) rfl ?_
    refine nx_o (op_assign (.tmp 1 rfl)) rfl ?_
    refine nx_nil ?_
    refine Says.ex (S' := [(9, I v_n21), (8, I v_s20)]) (O' := []) (says_pick [0, 1] [] rfl rfl) ?_
    refine ex_kx (hK23 _ _ ?_)
    refine cw_ret ?_
    cases h
    refine Says.ex (S' := [(8, I v_s20), (9, I v_n21)]) (O' := []) (says_pick [1, 0] [] rfl rfl) ?_
    exact ex_done (.inl rfl) rfl (fun a w G V hs _ hS => resM rfl (.tmp (.tmp 0 rfl) (.tmp (.tmp 1 rfl) .nil)) a w G V hs hS)
  ·
    refine cw_seq fun K24 hK24 => ?_
    refine cw_region ?_
    refine nx_o (op_assign (Can.int _ _ _)) rfl ?_
    refine nx_nil ?_
    refine ex_kx (hK24 _ _ ?_)
    refine cw_block ?_
    refine Says.cw (S' := [(0, SL 2 cSample v_l1), (1, I v_feature2), (2, I v_cut3), (3, B v_below4), (10, I 0), (11, I 0), (12, I 0)]) (O' := []) (says_pick [3, 4, 5, 6, 2, 1, 0] [] rfl rfl) ?_
    refine cw_loopJ (fun n S O => ∃ (v_s31 : Int) (v_n32 : Int) (v_i33 : Int), orchref2_sum_l1 N v_l1 v_feature2 v_cut3 v_below4 n v_s31 v_n32 v_i33 = some r ∧ S = [(0, SL 2 cSample v_l1), (1, I v_feature2), (2, I v_cut3), (3, B v_below4), (10, I v_s31), (11, I v_n32), (12, I v_i33)] ∧ O = []) ?_ ?_ N ⟨0, 0, 0, h, rfl, rfl⟩
    · rintro S O ⟨v_s31, v_n32, v_i33, h, -, -⟩
      simp [orchref2_sum_l1] at h
    · rintro n_1 S O ⟨v_s31, v_n32, v_i33, h, rfl, rfl⟩ K35 hK35
      rw [orchref2_sum_l1] at h
      refine cw_seq fun K36 hK36 => ?_
      refine cw_seq fun K37 hK37 => ?_
      refine cw_region ?_
      refine nx_o (op_move (.tmp 6 rfl)) rfl ?_
      refine nx_o (op_move (.tmp 1 rfl)) rfl ?_
      refine nx_o (op_len (.tmp 0 rfl) u50) rfl ?_
      refine nx_o (op_lss (.tmp 2 rfl) (.tmp 0 rfl)) rfl ?_
      refine nx_nil ?_
      refine Says.ex (S' := [(16, B (decide (v_i33 < (v_l1.length : Int)))), (0, SL 2 cSample v_l1), (1, I v_feature2), (2, I v_cut3), (3, B v_below4), (10, I v_s31), (11, I v_n32), (12, I v_i33)]) (O' := []) (says_pick [0, 4, 5, 6, 7, 8, 9, 10] [] rfl rfl) ?_
      refine ex_kx (hK37 _ _ ?_)
      refine cw_cond (b := (decide (v_i33 < (v_l1.length : Int)))) (.tmp 0 rfl) (fun hc => ?_) (fun hc => ?_)
      · have h := ite_t hc h
        refine cw_skip ?_
        refine ex_kx (hK36 _ _ ?_)
        refine cw_seq fun K38 hK38 => ?_
        refine cw_block ?_
        refine cw_seq fun K39 hK39 => ?_
        refine cw_region ?_
        refine nx_o (op_move (.tmp 1 rfl)) rfl ?_
        refine nx_o (op_move (.tmp 8 rfl)) rfl ?_
        obtain ⟨v_y34, hv_y34, h⟩ := bnd h
        refine nx_o (op_indexX hv_y34 (.tmp 1 rfl) (.tmp 0 rfl) u50 s146) rfl ?_
        refine nx_o (op_field (.tmp 0 rfl) o146_0) rfl ?_
        refine nx_o (op_load1 (.tmp 0 rfl) a22) rfl ?_
        refine nx_o (op_move (.tmp 7 rfl)) rfl ?_
        obtain ⟨v_y35, hv_y35, h⟩ := bnd h
        refine nx_o (op_indexX hv_y35 (.tmp 1 rfl) (.tmp 0 rfl) u22 s3) rfl ?_
        refine nx_o (op_load1 (.tmp 0 rfl) a3) rfl ?_
        refine nx_o (op_move (.tmp 11 rfl)) rfl ?_
        refine nx_o (op_lss (.tmp 1 rfl) (.tmp 0 rfl)) rfl ?_
        refine nx_o (op_move (.tmp 14 rfl)) rfl ?_
        refine nx_o (op_eqlB (.tmp 1 rfl) (.tmp 0 rfl) u4) rfl ?_
        refine nx_nil ?_
        refine Says.ex (S' := [(30, B ((decide (v_y35 < v_cut3)) == v_below4)), (0, SL 2 cSample v_l1), (1, I v_feature2), (2, I v_cut3), (3, B v_below4), (10, I v_s31), (11, I v_n32), (12, I v_i33)]) (O' := []) (says_pick [0, 13, 14, 15, 16, 17, 18, 19] [] rfl rfl) ?_
        refine ex_kx (hK39 _ _ ?_)
        refine cw_cond (b := ((decide (v_y35 < v_cut3)) == v_below4)) (.tmp 0 rfl) (fun hc => ?_) (fun hc => ?_)
        · have h := ite_t hc h
          refine cw_seq fun K40 hK40 => ?_
          refine cw_region ?_
          refine nx_o (op_move (.tmp 5 rfl)) rfl ?_
          refine nx_o (op_move (.tmp 2 rfl)) rfl ?_
          refine nx_o (op_move (.tmp 9 rfl)) rfl ?_
          obtain ⟨v_y36, hv_y36, h⟩ := bnd h
          refine nx_o (op_indexX hv_y36 (.tmp 1 rfl) (.tmp 0 rfl) u50 s146) rfl ?_
          refine nx_o (op_field (.tmp 0 rfl) o146_1) rfl ?_
          refine nx_o (op_load1 (.tmp 0 rfl) a3) rfl ?_
          refine nx_o (op_add (.tmp 5 rfl) (.tmp 0 rfl)) rfl ?_
          refine nx_k [0, 1, 2, 3, 4, 5, 6, 7, 8, 9, 10, 11, 13, 14] (op_assign (.tmp 0 rfl)) rfl rfl ?_
          show Nx _ _ _ _ _ [(10, I (w64 (v_s31 + v_y36.target))), (37, I (w64 (v_s31 + v_y36.target))), (36, I v_y36.target), (35, .ptr ((cSample v_y36).drop 1)), (34, .ptr (cSample v_y36)), (33, I v_i33), (32, SL 2 cSample v_l1), (31, I v_s31), (30, B ((decide (v_y35 < v_cut3)) == v_below4)), (0, SL 2 cSample v_l1), (1, I v_feature2), (2, I v_cut3), (3, B v_below4), (11, I v_n32), (12, I v_i33)] []
          refine nx_nil ?_
          refine Says.ex (S' := [(10, I (w64 (v_s31 + v_y36.target))), (0, SL 2 cSample v_l1), (1, I v_feature2), (2, I v_cut3), (3, B v_below4), (11, I v_n32), (12, I v_i33)]) (O' := []) (says_pick [0, 9, 10, 11, 12, 13, 14] [] rfl rfl) ?_
          refine ex_kx (hK40 _ _ ?_)
          refine cw_region ?_
          refine nx_o (op_move (.tmp 5 rfl)) rfl ?_
          refine nx_o (op_add (.tmp 0 rfl) (Can.int _ _ _)) rfl ?_
          refine nx_k [0, 1, 2, 3, 4, 5, 6, 8] (op_assign (.tmp 0 rfl)) rfl rfl ?_
          show Nx _ _ _ _ _ [(11, I (w64 (v_n32 + 1))), (39, I (w64 (v_n32 + 1))), (38, I v_n32), (10, I (w64 (v_s31 + v_y36.target))), (0, SL 2 cSample v_l1), (1, I v_feature2), (2, I v_cut3), (3, B v_below4), (12, I v_i33)] []
          refine nx_nil ?_
          refine Says.ex (S' := [(11, I (w64 (v_n32 + 1))), (10, I (w64 (v_s31 + v_y36.target))), (0, SL 2 cSample v_l1), (1, I v_feature2), (2, I v_cut3), (3, B v_below4), (12, I v_i33)]) (O' := []) (says_pick [0, 3, 4, 5, 6, 7, 8] [] rfl rfl) ?_
          refine ex_bn ?_
          refine ex_kx (hK38 _ _ ?_)
          refine cw_region ?_
          refine nx_o (op_move (.tmp 6 rfl)) rfl ?_
          refine nx_o (op_add (.tmp 0 rfl) (Can.int _ _ _)) rfl ?_
          refine nx_k [0, 1, 2, 3, 4, 5, 6, 7] (op_assign (.tmp 0 rfl)) rfl rfl ?_
          show Nx _ _ _ _ _ [(12, I (w64 (v_i33 + 1))), (18, I (w64 (v_i33 + 1))), (17, I v_i33), (11, I (w64 (v_n32 + 1))), (10, I (w64 (v_s31 + v_y36.target))), (0, SL 2 cSample v_l1), (1, I v_feature2), (2, I v_cut3), (3, B v_below4)] []
          refine nx_nil ?_
          refine Says.ex (S' := [(12, I (w64 (v_i33 + 1))), (11, I (w64 (v_n32 + 1))), (10, I (w64 (v_s31 + v_y36.target))), (0, SL 2 cSample v_l1), (1, I v_feature2), (2, I v_cut3), (3, B v_below4)]) (O' := []) (says_pick [0, 3, 4, 5, 6, 7, 8] [] rfl rfl) ?_
          refine ex_kx ?_
          refine Says.kx (S' := [(0, SL 2 cSample v_l1), (1, I v_feature2), (2, I v_cut3), (3, B v_below4), (10, I (w64 (v_s31 + v_y36.target))), (11, I (w64 (v_n32 + 1))), (12, I (w64 (v_i33 + 1)))]) (O' := []) (says_pick [3, 4, 5, 6, 2, 1, 0] [] rfl rfl) ?_
          exact hK35 _ _ ⟨w64 (v_s31 + v_y36.target), w64 (v_n32 + 1), w64 (v_i33 + 1), h, rfl, rfl⟩
        · have h := ite_f hc h
          refine cw_skip ?_
          refine ex_bn ?_
          refine ex_kx (hK38 _ _ ?_)
          refine cw_region ?_
          refine nx_o (op_move (.tmp 7 rfl)) rfl ?_
          refine nx_o (op_add (.tmp 0 rfl) (Can.int _ _ _)) rfl ?_
          refine nx_k [0, 1, 2, 3, 4, 5, 6, 7, 8] (op_assign (.tmp 0 rfl)) rfl rfl ?_
          show Nx _ _ _ _ _ [(12, I (w64 (v_i33 + 1))), (18, I (w64 (v_i33 + 1))), (17, I v_i33), (30, B ((decide (v_y35 < v_cut3)) == v_below4)), (0, SL 2 cSample v_l1), (1, I v_feature2), (2, I v_cut3), (3, B v_below4), (10, I v_s31), (11, I v_n32)] []
          refine nx_nil ?_
          refine Says.ex (S' := [(12, I (w64 (v_i33 + 1))), (0, SL 2 cSample v_l1), (1, I v_feature2), (2, I v_cut3), (3, B v_below4), (10, I v_s31), (11, I v_n32)]) (O' := []) (says_pick [0, 4, 5, 6, 7, 8, 9] [] rfl rfl) ?_
          refine ex_kx ?_
          refine Says.kx (S' := [(0, SL 2 cSample v_l1), (1, I v_feature2), (2, I v_cut3), (3, B v_below4), (10, I v_s31), (11, I v_n32), (12, I (w64 (v_i33 + 1)))]) (O' := []) (says_pick [1, 2, 3, 4, 5, 6, 0] [] rfl rfl) ?_
          exact hK35 _ _ ⟨v_s31, v_n32, w64 (v_i33 + 1), h, rfl, rfl⟩
      · have h := ite_f hc h
        refine cw_exit ?_
        refine ex_te ?_
        refine ex_te ?_
        refine ex_be ?_
        refine ex_kx ?_
        refine Says.kx (S' := [(10, I v_s31), (11, I v_n32)]) (O' := []) (says_pick [5, 6] [] rfl rfl) ?_
        exact hK22 _ _ ⟨v_s31, v_n32, h, rfl, rfl⟩

theorem f43_fn (N : Nat) (v_a1 : List Sample) (v_a2 : Int) (v_a3 : Int) (r : Int × Int × Bool) (h : orchref2_Split N v_a1 v_a2 v_a3 = some r) : Fn Go.Proofs.Tryd.prog 43 [SL 2 cSample v_a1, I v_a2, I v_a3] [] (.tup [I r.1, I r.2.1, B r.2.2]) [] := by
  unfold orchref2_Split at h
  refine fn_intro [] fun43 rfl rfl (Nat.le_of_ble_eq_true rfl) rfl rfl (fun w G V => ?_)
  show Cw _ _ _ _ [(0, SL 2 cSample v_a1), (1, I v_a2), (2, I v_a3)] []
  refine cw_seq fun K1 hK1 => ?_
  refine cw_region ?_
  refine nx_o (op_assign (Can.int _ _ _)) rfl ?_
  refine nx_o (op_assign (Can.int _ _ _)) rfl ?_
  refine nx_o (op_assign (Can.bool _ _)) rfl ?_
  refine nx_nil ?_
  refine Says.ex (S' := [(0, SL 2 cSample v_a1), (1, I v_a2), (2, I v_a3)]) (O' := []) (says_pick [3, 4, 5] [] rfl rfl) ?_
  refine ex_kx (hK1 _ _ ?_)
  refine cw_seq fun K2 hK2 => ?_
  refine cw_region ?_
  refine nx_o (op_assign (Can.int _ _ _)) rfl ?_
  refine nx_nil ?_
  refine ex_kx (hK2 _ _ ?_)
  refine cw_join (fun S O => ∃ (v_t11 : Int), orchref2_Split_j1 N v_a2 v_a1 v_a3 v_t11 = some r ∧ S = [(0, SL 2 cSample v_a1), (1, I v_a2), (2, I v_a3), (9, I v_t11)] ∧ O = []) ?_ (fun K15 hK15 => ?_)
  · rintro S O ⟨v_t11, h, rfl, rfl⟩
    unfold orchref2_Split_j1 at h
    refine cw_seq fun K16 hK16 => ?_
    refine cw_region ?_
    refine nx_o (op_move (.tmp 3 rfl)) rfl ?_
    refine nx_o (op_move (.tmp 4 rfl)) rfl ?_
    refine nx_o (op_mul (.tmp 1 rfl) (.tmp 0 rfl)) rfl ?_
    refine nx_o (op_assign (.tmp 0 rfl)) rfl ?_
    refine nx_nil ?_
    refine Says.ex (S' := [(11, I (w64 (v_t11 * v_t11))), (0, SL 2 cSample v_a1), (1, I v_a2), (2, I v_a3)]) (O' := []) (says_pick [0, 4, 5, 6] [] rfl rfl) ?_
    refine ex_kx (hK16 _ _ ?_)
    refine cw_seq fun K17 hK17 => ?_
    refine cw_region ?_
    refine nx_o (op_move (.tmp 1 rfl)) rfl ?_
    refine nx_o (op_len (.tmp 0 rfl) u50) rfl ?_
    refine nx_o (op_assign (.tmp 0 rfl)) rfl ?_
    refine nx_nil ?_
    refine Says.ex (S' := [(12, I (v_a1.length : Int)), (11, I (w64 (v_t11 * v_t11))), (0, SL 2 cSample v_a1), (1, I v_a2), (2, I v_a3)]) (O' := []) (says_pick [0, 3, 4, 5, 6] [] rfl rfl) ?_
    refine ex_kx (hK17 _ _ ?_)
    refine cw_seq fun K18 hK18 => ?_
    refine cw_region ?_
    refine nx_o (op_assign (Can.int _ _ _)) rfl ?_
    refine nx_nil ?_
    refine ex_kx (hK18 _ _ ?_)
    refine cw_seq fun K19 hK19 => ?_
    refine cw_region ?_
    refine nx_o (op_assign (Can.int _ _ _)) rfl ?_
    refine nx_nil ?_
    refine ex_kx (hK19 _ _ ?_)
    refine cw_seq fun K20 hK20 => ?_
    refine cw_region ?_
    refine nx_o (op_assign (Can.bool _ _)) rfl ?_
    refine nx_nil ?_
    refine ex_kx (hK20 _ _ ?_)
    refine cw_join (fun S O => ∃ (v_t262 : Int) (v_t263 : Int) (v_t264 : Bool), orchref2_Split_j2 N v_t262 v_t263 v_t264 = some r ∧ S = [(13, I v_t262), (14, I v_t263), (15, B v_t264)] ∧ O = []) ?_ (fun K424 hK424 => ?_)
    · rintro S O ⟨v_t262, v_t263, v_t264, h, rfl, rfl⟩
      unfold orchref2_Split_j2 at h
      refine cw_seq fun K425 hK425 => ?_
      refine cw_region ?_
      refine nx_o (op_move (.tmp 0 rfl)) rfl ?_
      refine nx_o (op_move (.tmp 2 rfl)) rfl ?_
      refine nx_o (op_move (.tmp 4 rfl)) rfl ?_
      refine nx_o (op_assign (.tmp 2 rfl)) rfl ?_
      refine nx_o (op_assign (.tmp 2 rfl)) rfl ?_
      refine nx_o (op_assign (.tmp 2 rfl)) rfl ?_
      refine nx_nil ?_
      refine Says.ex (S' := [(8, B v_t264), (7, I v_t263), (6, I v_t262)]) (O' := []) (says_pick [0, 1, 2] [] rfl rfl) ?_
      refine ex_kx (hK425 _ _ ?_)
      refine cw_ret ?_
      cases h
      refine Says.ex (S' := [(6, I v_t262), (7, I v_t263), (8, B v_t264)]) (O' := []) (says_pick [2, 1, 0] [] rfl rfl) ?_
      exact ex_done (.inl rfl) rfl (fun a w G V hs _ hS => resM rfl (.tmp (.tmp 0 rfl) (.tmp (.tmp 1 rfl) (.tmp (.tmp 2 rfl) .nil))) a w G V hs hS)
    ·
      refine cw_seq fun K426 hK426 => ?_
      refine cw_region ?_
      refine nx_o (op_assign (Can.int _ _ _)) rfl ?_
      refine nx_nil ?_
      refine ex_kx (hK426 _ _ ?_)
      refine cw_block ?_
      refine Says.cw (S' := [(0, SL 2 cSample v_a1), (1, I v_a2), (2, I v_a3), (11, I (w64 (v_t11 * v_t11))), (12, I (v_a1.length : Int)), (13, I 0), (14, I 0), (15, B false), (16, I 0)]) (O' := []) (says_pick [6, 7, 8, 5, 4, 3, 2, 1, 0] [] rfl rfl) ?_
      refine cw_loopJ (fun n S O => ∃ (v_t450 : Int) (v_t451 : Int) (v_t452 : Int) (v_t453 : Int) (v_t454 : Bool) (v_t455 : Int), orchref2_Split_l1 N v_a2 v_a1 v_a3 n v_t450 v_t451 v_t452 v_t453 v_t454 v_t455 = some r ∧ S = [(0, SL 2 cSample v_a1), (1, I v_a2), (2, I v_a3), (11, I v_t450), (12, I v_t451), (13, I v_t452), (14, I v_t453), (15, B v_t454), (16, I v_t455)] ∧ O = []) ?_ ?_ N ⟨w64 (v_t11 * v_t11), (v_a1.length : Int), 0, 0, false, 0, h, rfl, rfl⟩
      · rintro S O ⟨v_t450, v_t451, v_t452, v_t453, v_t454, v_t455, h, -, -⟩
        simp [orchref2_Split_l1] at h
      · rintro n_1 S O ⟨v_t450, v_t451, v_t452, v_t453, v_t454, v_t455, h, rfl, rfl⟩ K727 hK727
        rw [orchref2_Split_l1] at h
        refine cw_seq fun K728 hK728 => ?_
        refine cw_seq fun K729 hK729 => ?_
        refine cw_region ?_
        refine nx_o (op_move (.tmp 8 rfl)) rfl ?_
        refine nx_o (op_move (.tmp 2 rfl)) rfl ?_
        refine nx_o (op_lss (.tmp 1 rfl) (.tmp 0 rfl)) rfl ?_
        refine nx_nil ?_
        refine Says.ex (S' := [(45, B (decide (v_t455 < v_a2))), (0, SL 2 cSample v_a1), (1, I v_a2), (2, I v_a3), (11, I v_t450), (12, I v_t451), (13, I v_t452), (14, I v_t453), (15, B v_t454), (16, I v_t455)]) (O' := []) (says_pick [0, 3, 4, 5, 6, 7, 8, 9, 10, 11] [] rfl rfl) ?_
        refine ex_kx (hK729 _ _ ?_)
        refine cw_cond (b := (decide (v_t455 < v_a2))) (.tmp 0 rfl) (fun hc => ?_) (fun hc => ?_)
        · have h := ite_t hc h
          refine cw_skip ?_
          refine ex_kx (hK728 _ _ ?_)
          refine cw_join (fun S O => ∃ (v_t483 : Int) (v_t484 : Int) (v_t485 : Int) (v_t486 : Int) (v_t487 : Bool), orchref2_Split_j3 N (orchref2_Split_l1 N v_a2 v_a1 v_a3 n_1) v_t455 v_t483 v_t484 v_t485 v_t486 v_t487 = some r ∧ S = [(0, SL 2 cSample v_a1), (1, I v_a2), (2, I v_a3), (11, I v_t483), (12, I v_t484), (13, I v_t485), (14, I v_t486), (15, B v_t487), (16, I v_t455)] ∧ O = []) ?_ (fun K778 hK778 => ?_)
          · rintro S O ⟨v_t483, v_t484, v_t485, v_t486, v_t487, h, rfl, rfl⟩
            unfold orchref2_Split_j3 at h
            refine cw_region ?_
            refine nx_o (op_move (.tmp 8 rfl)) rfl ?_
            refine nx_o (op_add (.tmp 0 rfl) (Can.int _ _ _)) rfl ?_
            refine nx_k [0, 1, 2, 3, 4, 5, 6, 7, 8, 9] (op_assign (.tmp 0 rfl)) rfl rfl ?_
            show Nx _ _ _ _ _ [(16, I (w64 (v_t455 + 1))), (47, I (w64 (v_t455 + 1))), (46, I v_t455), (0, SL 2 cSample v_a1), (1, I v_a2), (2, I v_a3), (11, I v_t483), (12, I v_t484), (13, I v_t485), (14, I v_t486), (15, B v_t487)] []
            refine nx_nil ?_
            refine Says.ex (S' := [(16, I (w64 (v_t455 + 1))), (0, SL 2 cSample v_a1), (1, I v_a2), (2, I v_a3), (11, I v_t483), (12, I v_t484), (13, I v_t485), (14, I v_t486), (15, B v_t487)]) (O' := []) (says_pick [0, 3, 4, 5, 6, 7, 8, 9, 10] [] rfl rfl) ?_
            refine ex_kx ?_
            refine Says.kx (S' := [(0, SL 2 cSample v_a1), (1, I v_a2), (2, I v_a3), (11, I v_t483), (12, I v_t484), (13, I v_t485), (14, I v_t486), (15, B v_t487), (16, I (w64 (v_t455 + 1)))]) (O' := []) (says_pick [1, 2, 3, 4, 5, 6, 7, 8, 0] [] rfl rfl) ?_
            exact hK727 _ _ ⟨v_t483, v_t484, v_t485, v_t486, v_t487, w64 (v_t455 + 1), h, rfl, rfl⟩
          ·
            refine cw_block ?_
            refine cw_seq fun K779 hK779 => ?_
            refine cw_region ?_
            refine nx_o (op_assign (Can.int _ _ _)) rfl ?_
            refine nx_nil ?_
            refine Says.ex (S' := [(17, I 0), (0, SL 2 cSample v_a1), (1, I v_a2), (2, I v_a3), (11, I v_t450), (12, I v_t451), (13, I v_t452), (14, I v_t453), (15, B v_t454), (16, I v_t455)]) (O' := []) (says_pick [0, 2, 3, 4, 5, 6, 7, 8, 9, 10] [] rfl rfl) ?_
            refine ex_kx (hK779 _ _ ?_)
            refine cw_block ?_
            refine Says.cw (S' := [(0, SL 2 cSample v_a1), (1, I v_a2), (2, I v_a3), (11, I v_t450), (12, I v_t451), (13, I v_t452), (14, I v_t453), (15, B v_t454), (16, I v_t455), (17, I 0)]) (O' := []) (says_pick [1, 2, 3, 4, 5, 6, 7, 8, 9, 0] [] rfl rfl) ?_
            refine cw_loopJ (fun n S O => ∃ (v_t504 : Int) (v_t505 : Int) (v_t506 : Int) (v_t507 : Int) (v_t508 : Bool) (v_t509 : Int), orchref2_Split_l2 N v_a1 v_t455 v_a3 (orchref2_Split_l1 N v_a2 v_a1 v_a3 n_1) n v_t504 v_t505 v_t506 v_t507 v_t508 v_t509 = some r ∧ S = [(0, SL 2 cSample v_a1), (1, I v_a2), (2, I v_a3), (11, I v_t504), (12, I v_t505), (13, I v_t506), (14, I v_t507), (15, B v_t508), (16, I v_t455), (17, I v_t509)] ∧ O = []) ?_ ?_ N ⟨v_t450, v_t451, v_t452, v_t453, v_t454, 0, h, rfl, rfl⟩
            · rintro S O ⟨v_t504, v_t505, v_t506, v_t507, v_t508, v_t509, h, -, -⟩
              simp [orchref2_Split_l2] at h
            · rintro n_2 S O ⟨v_t504, v_t505, v_t506, v_t507, v_t508, v_t509, h, rfl, rfl⟩ K810 hK810
              rw [orchref2_Split_l2] at h
              refine cw_seq fun K811 hK811 => ?_
              refine cw_seq fun K812 hK812 => ?_
              refine cw_region ?_
              refine nx_o (op_move (.tmp 9 rfl)) rfl ?_
              refine nx_o (op_move (.tmp 1 rfl)) rfl ?_
              refine nx_o (op_len (.tmp 0 rfl) u50) rfl ?_
              refine nx_o (op_lss (.tmp 2 rfl) (.tmp 0 rfl)) rfl ?_
              refine nx_nil ?_
              refine Says.ex (S' := [(51, B (decide (v_t509 < (v_a1.length : Int)))), (0, SL 2 cSample v_a1), (1, I v_a2), (2, I v_a3), (11, I v_t504), (12, I v_t505), (13, I v_t506), (14, I v_t507), (15, B v_t508), (16, I v_t455), (17, I v_t509)]) (O' := []) (says_pick [0, 4, 5, 6, 7, 8, 9, 10, 11, 12, 13] [] rfl rfl) ?_
              refine ex_kx (hK812 _ _ ?_)
              refine cw_cond (b := (decide (v_t509 < (v_a1.length : Int)))) (.tmp 0 rfl) (fun hc => ?_) (fun hc => ?_)
              · have h := ite_t hc h
                refine cw_skip ?_
                refine ex_kx (hK811 _ _ ?_)
                refine cw_seq fun K813 hK813 => ?_
                refine cw_block ?_
                refine cw_seq fun K814 hK814 => ?_
                refine cw_region ?_
                refine nx_o (op_move (.tmp 1 rfl)) rfl ?_
                refine nx_o (op_move (.tmp 11 rfl)) rfl ?_
                obtain ⟨v_y510, hv_y510, h⟩ := bnd h
                refine nx_o (op_indexX hv_y510 (.tmp 1 rfl) (.tmp 0 rfl) u50 s146) rfl ?_
                refine nx_o (op_field (.tmp 0 rfl) o146_0) rfl ?_
                refine nx_o (op_load1 (.tmp 0 rfl) a22) rfl ?_
                refine nx_o (op_move (.tmp 14 rfl)) rfl ?_
                obtain ⟨v_y511, hv_y511, h⟩ := bnd h
                refine nx_o (op_indexX hv_y511 (.tmp 1 rfl) (.tmp 0 rfl) u22 s3) rfl ?_
                refine nx_o (op_load1 (.tmp 0 rfl) a3) rfl ?_
                refine nx_o (op_assign (.tmp 0 rfl)) rfl ?_
                refine nx_nil ?_
                refine Says.ex (S' := [(18, I v_y511), (0, SL 2 cSample v_a1), (1, I v_a2), (2, I v_a3), (11, I v_t504), (12, I v_t505), (13, I v_t506), (14, I v_t507), (15, B v_t508), (16, I v_t455), (17, I v_t509)]) (O' := []) (says_pick [0, 10, 11, 12, 13, 14, 15, 16, 17, 18, 19] [] rfl rfl) ?_
                refine ex_kx (hK814 _ _ ?_)
                refine cw_seq fun K815 hK815 => ?_
                refine cw_region ?_
                refine nx_o (op_move (.tmp 1 rfl)) rfl ?_
                refine nx_o (op_move (.tmp 10 rfl)) rfl ?_
                refine nx_o (op_move (.tmp 2 rfl)) rfl ?_
                obtain ⟨v_r512, hv_r512, h⟩ := bnd h
                refine nx_o (op_call0 (show Fn Go.Proofs.Tryd.prog 99 [SL 2 cSample v_a1, I v_t455, I v_y511, B true] [] (.tup [I v_r512.1, I v_r512.2]) [] from (f99_fn N v_a1 v_t455 v_y511 true _ hv_r512)) c99 (.cons (.tmp 2 rfl) (.cons (.tmp 1 rfl) (.cons (.tmp 0 rfl) (.cons (Can.bool _ _) .nil))))) rfl ?_
                refine nx_o (op_move (.tmp 0 rfl)) rfl ?_
                refine nx_o (op_extract (.tmp 0 rfl) rfl) rfl ?_
                refine nx_o (op_extract (.tmp 1 rfl) rfl) rfl ?_
                refine nx_o (op_assign (.tmp 1 rfl)) rfl ?_
                refine nx_o (op_assign (.tmp 1 rfl)) rfl ?_
                refine nx_nil ?_
                refine Says.ex (S' := [(20, I v_r512.2), (19, I v_r512.1), (18, I v_y511), (0, SL 2 cSample v_a1), (1, I v_a2), (2, I v_a3), (11, I v_t504), (12, I v_t505), (13, I v_t506), (14, I v_t507), (15, B v_t508), (16, I v_t455), (17, I v_t509)]) (O' := []) (says_pick [0, 1, 9, 10, 11, 12, 13, 14, 15, 16, 17, 18, 19] [] rfl rfl) ?_
                refine ex_kx (hK815 _ _ ?_)
                refine cw_seq fun K816 hK816 => ?_
                refine cw_region ?_
                refine nx_o (op_move (.tmp 3 rfl)) rfl ?_
                refine nx_o (op_move (.tmp 12 rfl)) rfl ?_
                refine nx_o (op_move (.tmp 4 rfl)) rfl ?_
                obtain ⟨v_r513, hv_r513, h⟩ := bnd h
                refine nx_o (op_call0 (show Fn Go.Proofs.Tryd.prog 99 [SL 2 cSample v_a1, I v_t455, I v_y511, B false] [] (.tup [I v_r513.1, I v_r513.2]) [] from (f99_fn N v_a1 v_t455 v_y511 false _ hv_r513)) c99 (.cons (.tmp 2 rfl) (.cons (.tmp 1 rfl) (.cons (.tmp 0 rfl) (.cons (Can.bool _ _) .nil))))) rfl ?_
                refine nx_o (op_move (.tmp 0 rfl)) rfl ?_
                refine nx_o (op_extract (.tmp 0 rfl) rfl) rfl ?_
                refine nx_o (op_extract (.tmp 1 rfl) rfl) rfl ?_
                refine nx_o (op_assign (.tmp 1 rfl)) rfl ?_
                refine nx_o (op_assign (.tmp 1 rfl)) rfl ?_
                refine nx_nil ?_
                refine Says.ex (S' := [(22, I v_r513.2), (21, I v_r513.1), (20, I v_r512.2), (19, I v_r512.1), (18, I v_y511), (0, SL 2 cSample v_a1), (1, I v_a2), (2, I v_a3), (11, I v_t504), (12, I v_t505), (13, I v_t506), (14, I v_t507), (15, B v_t508), (16, I v_t455), (17, I v_t509)]) (O' := []) (says_pick [0, 1, 9, 10, 11, 12, 13, 14, 15, 16, 17, 18, 19, 20, 21] [] rfl rfl) ?_
                refine ex_kx (hK816 _ _ ?_)
                refine cw_seq fun K817 hK817 => ?_
                refine cw_seq fun K818 hK818 => ?_
                refine cw_region ?_
                refine nx_o (op_move (.tmp 2 rfl)) rfl ?_
                refine nx_o (op_move (.tmp 8 rfl)) rfl ?_
                refine nx_o (op_lss (.tmp 1 rfl) (.tmp 0 rfl)) rfl ?_
                refine nx_o (op_move (.tmp 0 rfl)) rfl ?_
                refine nx_g (opy_guard (cc := (!(decide (v_r512.2 < v_a3)))) (.plain 0 rfl) rfl rfl (fun hg => (op_move (.tmp 4 rfl)))) rfl ?_
                refine nx_g (opy_guard (cc := (!(decide (v_r512.2 < v_a3)))) (.plain 1 rfl) rfl rfl (fun hg => (op_move (.tmp 12 rfl)))) rfl ?_
                refine nx_g (opy_guard (cc := (!(decide (v_r512.2 < v_a3)))) (.plain 2 rfl) rfl rfl (fun hg => (op_lss (.cd 1 rfl hg) (.cd 0 rfl hg)))) rfl ?_
                refine nx_o (op_or (.tmp 3 rfl) (fun hp => (.cd 0 rfl (not_t hp)))) rfl ?_
                refine nx_o (op_move (.tmp 0 rfl)) rfl ?_
                refine nx_g (opy_guard (cc := (!((decide (v_r512.2 < v_a3)) || (decide (v_r513.2 < v_a3))))) (.plain 0 rfl) rfl rfl (fun hg => (op_move (.tmp 11 rfl)))) rfl ?_
                refine nx_g (opy_guard (cc := (!((decide (v_r512.2 < v_a3)) || (decide (v_r513.2 < v_a3))))) (.plain 1 rfl) rfl rfl (fun hg => (op_eql (.cd 0 rfl hg) (Can.int _ _ _)))) rfl ?_
                refine nx_o (op_or (.tmp 2 rfl) (fun hp => (.cd 0 rfl (not_t hp)))) rfl ?_
                refine nx_nil ?_
                refine Says.ex (S' := [(87, B (((decide (v_r512.2 < v_a3)) || (decide (v_r513.2 < v_a3))) || (v_r512.2 == 0))), (22, I v_r513.2), (21, I v_r513.1), (20, I v_r512.2), (19, I v_r512.1), (18, I v_y511), (0, SL 2 cSample v_a1), (1, I v_a2), (2, I v_a3), (11, I v_t504), (12, I v_t505), (13, I v_t506), (14, I v_t507), (15, B v_t508), (16, I v_t455), (17, I v_t509)]) (O' := []) (says_pick [0, 12, 13, 14, 15, 16, 17, 18, 19, 20, 21, 22, 23, 24, 25, 26] [] rfl rfl) ?_
                refine ex_kx (hK818 _ _ ?_)
                refine cw_cond (b := (((decide (v_r512.2 < v_a3)) || (decide (v_r513.2 < v_a3))) || (v_r512.2 == 0))) (.tmp 0 rfl) (fun hc => ?_) (fun hc => ?_)
                · have h := ite_t hc h
                  refine cw_exit ?_
                  refine ex_te ?_
                  refine ex_be ?_
                  refine ex_kx (hK813 _ _ ?_)
                  refine cw_region ?_
                  refine nx_o (op_move (.tmp 15 rfl)) rfl ?_
                  refine nx_o (op_add (.tmp 0 rfl) (Can.int _ _ _)) rfl ?_
                  refine nx_k [0, 1, 2, 3, 4, 5, 6, 7, 8, 9, 10, 11, 12, 13, 14, 15, 16] (op_assign (.tmp 0 rfl)) rfl rfl ?_
                  show Nx _ _ _ _ _ [(17, I (w64 (v_t509 + 1))), (53, I (w64 (v_t509 + 1))), (52, I v_t509), (87, B (((decide (v_r512.2 < v_a3)) || (decide (v_r513.2 < v_a3))) || (v_r512.2 == 0))), (22, I v_r513.2), (21, I v_r513.1), (20, I v_r512.2), (19, I v_r512.1), (18, I v_y511), (0, SL 2 cSample v_a1), (1, I v_a2), (2, I v_a3), (11, I v_t504), (12, I v_t505), (13, I v_t506), (14, I v_t507), (15, B v_t508), (16, I v_t455)] []
                  refine nx_nil ?_
                  refine Says.ex (S' := [(17, I (w64 (v_t509 + 1))), (0, SL 2 cSample v_a1), (1, I v_a2), (2, I v_a3), (11, I v_t504), (12, I v_t505), (13, I v_t506), (14, I v_t507), (15, B v_t508), (16, I v_t455)]) (O' := []) (says_pick [0, 9, 10, 11, 12, 13, 14, 15, 16, 17] [] rfl rfl) ?_
                  refine ex_kx ?_
                  refine Says.kx (S' := [(0, SL 2 cSample v_a1), (1, I v_a2), (2, I v_a3), (11, I v_t504), (12, I v_t505), (13, I v_t506), (14, I v_t507), (15, B v_t508), (16, I v_t455), (17, I (w64 (v_t509 + 1)))]) (O' := []) (says_pick [1, 2, 3, 4, 5, 6, 7, 8, 9, 0] [] rfl rfl) ?_
                  exact hK810 _ _ ⟨v_t504, v_t505, v_t506, v_t507, v_t508, w64 (v_t509 + 1), h, rfl, rfl⟩
                · have h := ite_f hc h
                  refine cw_skip ?_
                  refine ex_kx (hK817 _ _ ?_)
                  refine cw_seq fun K819 hK819 => ?_
                  refine cw_region ?_
                  refine nx_o (op_move (.tmp 4 rfl)) rfl ?_
                  refine nx_o (op_move (.tmp 5 rfl)) rfl ?_
                  refine nx_o (op_mul (.tmp 1 rfl) (.tmp 0 rfl)) rfl ?_
                  refine nx_o (op_move (.tmp 4 rfl)) rfl ?_
                  refine nx_o (op_mul (.tmp 1 rfl) (.tmp 0 rfl)) rfl ?_
                  refine nx_o (op_move (.tmp 7 rfl)) rfl ?_
                  refine nx_o (op_move (.tmp 8 rfl)) rfl ?_
                  refine nx_o (op_mul (.tmp 1 rfl) (.tmp 0 rfl)) rfl ?_
                  refine nx_o (op_move (.tmp 11 rfl)) rfl ?_
                  refine nx_o (op_mul (.tmp 1 rfl) (.tmp 0 rfl)) rfl ?_
                  obtain ⟨v_t514, hv_t514, h⟩ := bnd h
                  refine nx_o (OpX.named hv_t514 (op_add (.tmp 5 rfl) (.tmp 0 rfl))) rfl ?_
                  refine nx_o (op_assign (.tmp 0 rfl)) rfl ?_
                  refine nx_nil ?_
                  refine Says.ex (S' := [(23, I v_t514), (22, I v_r513.2), (20, I v_r512.2), (18, I v_y511), (0, SL 2 cSample v_a1), (1, I v_a2), (2, I v_a3), (11, I v_t504), (12, I v_t505), (13, I v_t506), (14, I v_t507), (15, B v_t508), (16, I v_t455), (17, I v_t509)]) (O' := []) (says_pick [0, 13, 15, 17, 18, 19, 20, 21, 22, 23, 24, 25, 26, 27] [] rfl rfl) ?_
                  refine ex_kx (hK819 _ _ ?_)
                  refine cw_seq fun K820 hK820 => ?_
                  refine cw_region ?_
                  refine nx_o (op_move (.tmp 2 rfl)) rfl ?_
                  refine nx_o (op_move (.tmp 2 rfl)) rfl ?_
                  refine nx_o (op_mul (.tmp 1 rfl) (.tmp 0 rfl)) rfl ?_
                  refine nx_o (op_assign (.tmp 0 rfl)) rfl ?_
                  refine nx_nil ?_
                  refine Says.ex (S' := [(24, I (w64 (v_r512.2 * v_r513.2))), (23, I v_t514), (18, I v_y511), (0, SL 2 cSample v_a1), (1, I v_a2), (2, I v_a3), (11, I v_t504), (12, I v_t505), (13, I v_t506), (14, I v_t507), (15, B v_t508), (16, I v_t455), (17, I v_t509)]) (O' := []) (says_pick [0, 4, 7, 8, 9, 10, 11, 12, 13, 14, 15, 16, 17] [] rfl rfl) ?_
                  refine ex_kx (hK820 _ _ ?_)
                  refine cw_seq fun K821 hK821 => ?_
                  refine cw_region ?_
                  refine nx_o (op_move (.tmp 1 rfl)) rfl ?_
                  refine nx_o (op_move (.tmp 8 rfl)) rfl ?_
                  refine nx_o (op_mul (.tmp 1 rfl) (.tmp 0 rfl)) rfl ?_
                  refine nx_o (op_move (.tmp 9 rfl)) rfl ?_
                  refine nx_o (op_move (.tmp 4 rfl)) rfl ?_
                  refine nx_o (op_mul (.tmp 1 rfl) (.tmp 0 rfl)) rfl ?_
                  refine nx_o (op_gtr (.tmp 3 rfl) (.tmp 0 rfl)) rfl ?_
                  refine nx_o (op_move (.tmp 0 rfl)) rfl ?_
                  refine nx_g (opy_guard (cc := (!(decide ((w64 (v_t514 * v_t505)) > (w64 (v_t504 * (w64 (v_r512.2 * v_r513.2)))))))) (.plain 0 rfl) rfl rfl (fun hg => (op_move (.tmp 18 rfl)))) rfl ?_
                  refine nx_g (opy_guard (cc := (!(decide ((w64 (v_t514 * v_t505)) > (w64 (v_t504 * (w64 (v_r512.2 * v_r513.2)))))))) (.plain 1 rfl) rfl rfl (fun hg => (op_move (.cd 0 rfl hg)))) rfl ?_
                  refine nx_g (opy_guard (cc := ((!(decide ((w64 (v_t514 * v_t505)) > (w64 (v_t504 * (w64 (v_r512.2 * v_r513.2))))))) && v_t508)) (.cond 0 rfl) rfl rfl (fun hg => (op_move (.tmp 11 rfl)))) rfl ?_
                  refine nx_g (opy_guard (cc := ((!(decide ((w64 (v_t514 * v_t505)) > (w64 (v_t504 * (w64 (v_r512.2 * v_r513.2))))))) && v_t508)) (.cond 1 rfl) rfl rfl (fun hg => (op_move (.tmp 18 rfl)))) rfl ?_
                  refine nx_g (opy_guard (cc := ((!(decide ((w64 (v_t514 * v_t505)) > (w64 (v_t504 * (w64 (v_r512.2 * v_r513.2))))))) && v_t508)) (.cond 2 rfl) rfl rfl (fun hg => (op_mul (.cd 1 rfl hg) (.cd 0 rfl hg)))) rfl ?_
                  refine nx_g (opy_guard (cc := ((!(decide ((w64 (v_t514 * v_t505)) > (w64 (v_t504 * (w64 (v_r512.2 * v_r513.2))))))) && v_t508)) (.cond 3 rfl) rfl rfl (fun hg => (op_move (.tmp 19 rfl)))) rfl ?_
                  refine nx_g (opy_guard (cc := ((!(decide ((w64 (v_t514 * v_t505)) > (w64 (v_t504 * (w64 (v_r512.2 * v_r513.2))))))) && v_t508)) (.cond 4 rfl) rfl rfl (fun hg => (op_move (.tmp 14 rfl)))) rfl ?_
                  refine nx_g (opy_guard (cc := ((!(decide ((w64 (v_t514 * v_t505)) > (w64 (v_t504 * (w64 (v_r512.2 * v_r513.2))))))) && v_t508)) (.cond 5 rfl) rfl rfl (fun hg => (op_mul (.cd 1 rfl hg) (.cd 0 rfl hg)))) rfl ?_
                  refine nx_g (opy_guard (cc := ((!(decide ((w64 (v_t514 * v_t505)) > (w64 (v_t504 * (w64 (v_r512.2 * v_r513.2))))))) && v_t508)) (.cond 6 rfl) rfl rfl (fun hg => (op_eql (.cd 3 rfl hg) (.cd 0 rfl hg)))) rfl ?_
                  refine nx_g (opy_guard (cc := (!(decide ((w64 (v_t514 * v_t505)) > (w64 (v_t504 * (w64 (v_r512.2 * v_r513.2)))))))) (.plain 9 rfl) rfl rfl (fun hg => (op_and (.cd 7 rfl hg) (fun hp => (.cd 0 rfl (and_t hg hp)))))) rfl ?_
                  refine nx_g (opy_guard (cc := (!(decide ((w64 (v_t514 * v_t505)) > (w64 (v_t504 * (w64 (v_r512.2 * v_r513.2)))))))) (.plain 10 rfl) rfl rfl (fun hg => (op_move (.cd 0 rfl hg)))) rfl ?_
                  refine nx_g (opy_guard (cc := ((!(decide ((w64 (v_t514 * v_t505)) > (w64 (v_t504 * (w64 (v_r512.2 * v_r513.2))))))) && (v_t508 && ((w64 (v_t514 * v_t505)) == (w64 (v_t504 * (w64 (v_r512.2 * v_r513.2)))))))) (.cond 0 rfl) rfl rfl (fun hg => (op_move (.tmp 30 rfl)))) rfl ?_
                  refine nx_g (opy_guard (cc := ((!(decide ((w64 (v_t514 * v_t505)) > (w64 (v_t504 * (w64 (v_r512.2 * v_r513.2))))))) && (v_t508 && ((w64 (v_t514 * v_t505)) == (w64 (v_t504 * (w64 (v_r512.2 * v_r513.2)))))))) (.cond 1 rfl) rfl rfl (fun hg => (op_move (.tmp 28 rfl)))) rfl ?_
                  refine nx_g (opy_guard (cc := ((!(decide ((w64 (v_t514 * v_t505)) > (w64 (v_t504 * (w64 (v_r512.2 * v_r513.2))))))) && (v_t508 && ((w64 (v_t514 * v_t505)) == (w64 (v_t504 * (w64 (v_r512.2 * v_r513.2)))))))) (.cond 2 rfl) rfl rfl (fun hg => (op_eql (.cd 1 rfl hg) (.cd 0 rfl hg)))) rfl ?_
                  refine nx_g (opy_guard (cc := (!(decide ((w64 (v_t514 * v_t505)) > (w64 (v_t504 * (w64 (v_r512.2 * v_r513.2)))))))) (.plain 14 rfl) rfl rfl (fun hg => (op_and (.cd 3 rfl hg) (fun hp => (.cd 0 rfl (and_t hg hp)))))) rfl ?_
                  refine nx_g (opy_guard (cc := (!(decide ((w64 (v_t514 * v_t505)) > (w64 (v_t504 * (w64 (v_r512.2 * v_r513.2)))))))) (.plain 15 rfl) rfl rfl (fun hg => (op_move (.cd 0 rfl hg)))) rfl ?_
                  refine nx_g (opy_guard (cc := ((!(decide ((w64 (v_t514 * v_t505)) > (w64 (v_t504 * (w64 (v_r512.2 * v_r513.2))))))) && ((v_t508 && ((w64 (v_t514 * v_t505)) == (w64 (v_t504 * (w64 (v_r512.2 * v_r513.2)))))) && (v_t455 == v_t506)))) (.cond 0 rfl) rfl rfl (fun hg => (op_move (.tmp 26 rfl)))) rfl ?_
                  refine nx_g (opy_guard (cc := ((!(decide ((w64 (v_t514 * v_t505)) > (w64 (v_t504 * (w64 (v_r512.2 * v_r513.2))))))) && ((v_t508 && ((w64 (v_t514 * v_t505)) == (w64 (v_t504 * (w64 (v_r512.2 * v_r513.2)))))) && (v_t455 == v_t506)))) (.cond 1 rfl) rfl rfl (fun hg => (op_move (.tmp 34 rfl)))) rfl ?_
                  refine nx_g (opy_guard (cc := ((!(decide ((w64 (v_t514 * v_t505)) > (w64 (v_t504 * (w64 (v_r512.2 * v_r513.2))))))) && ((v_t508 && ((w64 (v_t514 * v_t505)) == (w64 (v_t504 * (w64 (v_r512.2 * v_r513.2)))))) && (v_t455 == v_t506)))) (.cond 2 rfl) rfl rfl (fun hg => (op_lss (.cd 1 rfl hg) (.cd 0 rfl hg)))) rfl ?_
                  refine nx_g (opy_guard (cc := (!(decide ((w64 (v_t514 * v_t505)) > (w64 (v_t504 * (w64 (v_r512.2 * v_r513.2)))))))) (.plain 19 rfl) rfl rfl (fun hg => (op_and (.cd 3 rfl hg) (fun hp => (.cd 0 rfl (and_t hg hp)))))) rfl ?_
                  refine nx_o (op_or (.tmp 20 rfl) (fun hp => (.cd 0 rfl (not_t hp)))) rfl ?_
                  refine nx_nil ?_
                  refine Says.ex (S' := [(130, B ((decide ((w64 (v_t514 * v_t505)) > (w64 (v_t504 * (w64 (v_r512.2 * v_r513.2)))))) || (((v_t508 && ((w64 (v_t514 * v_t505)) == (w64 (v_t504 * (w64 (v_r512.2 * v_r513.2)))))) && (v_t455 == v_t506)) && (decide (v_y511 < v_t507))))), (24, I (w64 (v_r512.2 * v_r513.2))), (23, I v_t514), (18, I v_y511), (0, SL 2 cSample v_a1), (1, I v_a2), (2, I v_a3), (11, I v_t504), (12, I v_t505), (13, I v_t506), (14, I v_t507), (15, B v_t508), (16, I v_t455), (17, I v_t509)]) (O' := []) (says_pick [0, 29, 30, 31, 32, 33, 34, 35, 36, 37, 38, 39, 40, 41] [] rfl rfl) ?_
                  refine ex_kx (hK821 _ _ ?_)
                  refine cw_cond (b := ((decide ((w64 (v_t514 * v_t505)) > (w64 (v_t504 * (w64 (v_r512.2 * v_r513.2)))))) || (((v_t508 && ((w64 (v_t514 * v_t505)) == (w64 (v_t504 * (w64 (v_r512.2 * v_r513.2)))))) && (v_t455 == v_t506)) && (decide (v_y511 < v_t507))))) (.tmp 0 rfl) (fun hc => ?_) (fun hc => ?_)
                  · have h := ite_t hc h
                    refine cw_seq fun K822 hK822 => ?_
                    refine cw_region ?_
                    refine nx_o (op_move (.tmp 2 rfl)) rfl ?_
                    refine nx_k [0, 1, 2, 3, 4, 5, 6, 7, 9, 10, 11, 12, 13, 14] (op_assign (.tmp 0 rfl)) rfl rfl ?_
                    show Nx _ _ _ _ _ [(11, I v_t514), (131, I v_t514), (130, B ((decide ((w64 (v_t514 * v_t505)) > (w64 (v_t504 * (w64 (v_r512.2 * v_r513.2)))))) || (((v_t508 && ((w64 (v_t514 * v_t505)) == (w64 (v_t504 * (w64 (v_r512.2 * v_r513.2)))))) && (v_t455 == v_t506)) && (decide (v_y511 < v_t507))))), (24, I (w64 (v_r512.2 * v_r513.2))), (23, I v_t514), (18, I v_y511), (0, SL 2 cSample v_a1), (1, I v_a2), (2, I v_a3), (12, I v_t505), (13, I v_t506), (14, I v_t507), (15, B v_t508), (16, I v_t455), (17, I v_t509)] []
                    refine nx_nil ?_
                    refine Says.ex (S' := [(11, I v_t514), (24, I (w64 (v_r512.2 * v_r513.2))), (18, I v_y511), (0, SL 2 cSample v_a1), (1, I v_a2), (2, I v_a3), (16, I v_t455), (17, I v_t509)]) (O' := []) (says_pick [0, 3, 5, 6, 7, 8, 13, 14] [] rfl rfl) ?_
                    refine ex_kx (hK822 _ _ ?_)
                    refine cw_seq fun K823 hK823 => ?_
                    refine cw_region ?_
                    refine nx_o (op_move (.tmp 1 rfl)) rfl ?_
                    refine nx_o (op_assign (.tmp 0 rfl)) rfl ?_
                    refine nx_nil ?_
                    refine Says.ex (S' := [(12, I (w64 (v_r512.2 * v_r513.2))), (11, I v_t514), (18, I v_y511), (0, SL 2 cSample v_a1), (1, I v_a2), (2, I v_a3), (16, I v_t455), (17, I v_t509)]) (O' := []) (says_pick [0, 2, 4, 5, 6, 7, 8, 9] [] rfl rfl) ?_
                    refine ex_kx (hK823 _ _ ?_)
                    refine cw_seq fun K824 hK824 => ?_
                    refine cw_region ?_
                    refine nx_o (op_move (.tmp 6 rfl)) rfl ?_
                    refine nx_o (op_assign (.tmp 0 rfl)) rfl ?_
                    refine nx_nil ?_
                    refine Says.ex (S' := [(13, I v_t455), (12, I (w64 (v_r512.2 * v_r513.2))), (11, I v_t514), (18, I v_y511), (0, SL 2 cSample v_a1), (1, I v_a2), (2, I v_a3), (16, I v_t455), (17, I v_t509)]) (O' := []) (says_pick [0, 2, 3, 4, 5, 6, 7, 8, 9] [] rfl rfl) ?_
                    refine ex_kx (hK824 _ _ ?_)
                    refine cw_seq fun K825 hK825 => ?_
                    refine cw_region ?_
                    refine nx_o (op_move (.tmp 3 rfl)) rfl ?_
                    refine nx_o (op_assign (.tmp 0 rfl)) rfl ?_
                    refine nx_nil ?_
                    refine Says.ex (S' := [(14, I v_y511), (13, I v_t455), (12, I (w64 (v_r512.2 * v_r513.2))), (11, I v_t514), (0, SL 2 cSample v_a1), (1, I v_a2), (2, I v_a3), (16, I v_t455), (17, I v_t509)]) (O' := []) (says_pick [0, 2, 3, 4, 6, 7, 8, 9, 10] [] rfl rfl) ?_
                    refine ex_kx (hK825 _ _ ?_)
                    refine cw_region ?_
                    refine nx_o (op_assign (Can.bool _ _)) rfl ?_
                    refine nx_nil ?_
                    refine ex_bn ?_
                    refine ex_kx (hK813 _ _ ?_)
                    refine cw_region ?_
                    refine nx_o (op_move (.tmp 9 rfl)) rfl ?_
                    refine nx_o (op_add (.tmp 0 rfl) (Can.int _ _ _)) rfl ?_
                    refine nx_k [0, 1, 2, 3, 4, 5, 6, 7, 8, 9, 10] (op_assign (.tmp 0 rfl)) rfl rfl ?_
                    show Nx _ _ _ _ _ [(17, I (w64 (v_t509 + 1))), (53, I (w64 (v_t509 + 1))), (52, I v_t509), (15, B true), (14, I v_y511), (13, I v_t455), (12, I (w64 (v_r512.2 * v_r513.2))), (11, I v_t514), (0, SL 2 cSample v_a1), (1, I v_a2), (2, I v_a3), (16, I v_t455)] []
                    refine nx_nil ?_
                    refine Says.ex (S' := [(17, I (w64 (v_t509 + 1))), (15, B true), (14, I v_y511), (13, I v_t455), (12, I (w64 (v_r512.2 * v_r513.2))), (11, I v_t514), (0, SL 2 cSample v_a1), (1, I v_a2), (2, I v_a3), (16, I v_t455)]) (O' := []) (says_pick [0, 3, 4, 5, 6, 7, 8, 9, 10, 11] [] rfl rfl) ?_
                    refine ex_kx ?_
                    refine Says.kx (S' := [(0, SL 2 cSample v_a1), (1, I v_a2), (2, I v_a3), (11, I v_t514), (12, I (w64 (v_r512.2 * v_r513.2))), (13, I v_t455), (14, I v_y511), (15, B true), (16, I v_t455), (17, I (w64 (v_t509 + 1)))]) (O' := []) (says_pick [6, 7, 8, 5, 4, 3, 2, 1, 9, 0] [] rfl rfl) ?_
                    exact hK810 _ _ ⟨v_t514, w64 (v_r512.2 * v_r513.2), v_t455, v_y511, true, w64 (v_t509 + 1), h, rfl, rfl⟩
                  · have h := ite_f hc h
                    refine cw_skip ?_
                    refine ex_bn ?_
                    refine ex_kx (hK813 _ _ ?_)
                    refine cw_region ?_
                    refine nx_o (op_move (.tmp 13 rfl)) rfl ?_
                    refine nx_o (op_add (.tmp 0 rfl) (Can.int _ _ _)) rfl ?_
                    refine nx_k [0, 1, 2, 3, 4, 5, 6, 7, 8, 9, 10, 11, 12, 13, 14] (op_assign (.tmp 0 rfl)) rfl rfl ?_
                    show Nx _ _ _ _ _ [(17, I (w64 (v_t509 + 1))), (53, I (w64 (v_t509 + 1))), (52, I v_t509), (130, B ((decide ((w64 (v_t514 * v_t505)) > (w64 (v_t504 * (w64 (v_r512.2 * v_r513.2)))))) || (((v_t508 && ((w64 (v_t514 * v_t505)) == (w64 (v_t504 * (w64 (v_r512.2 * v_r513.2)))))) && (v_t455 == v_t506)) && (decide (v_y511 < v_t507))))), (24, I (w64 (v_r512.2 * v_r513.2))), (23, I v_t514), (18, I v_y511), (0, SL 2 cSample v_a1), (1, I v_a2), (2, I v_a3), (11, I v_t504), (12, I v_t505), (13, I v_t506), (14, I v_t507), (15, B v_t508), (16, I v_t455)] []
                    refine nx_nil ?_
                    refine Says.ex (S' := [(17, I (w64 (v_t509 + 1))), (0, SL 2 cSample v_a1), (1, I v_a2), (2, I v_a3), (11, I v_t504), (12, I v_t505), (13, I v_t506), (14, I v_t507), (15, B v_t508), (16, I v_t455)]) (O' := []) (says_pick [0, 7, 8, 9, 10, 11, 12, 13, 14, 15] [] rfl rfl) ?_
                    refine ex_kx ?_
                    refine Says.kx (S' := [(0, SL 2 cSample v_a1), (1, I v_a2), (2, I v_a3), (11, I v_t504), (12, I v_t505), (13, I v_t506), (14, I v_t507), (15, B v_t508), (16, I v_t455), (17, I (w64 (v_t509 + 1)))]) (O' := []) (says_pick [1, 2, 3, 4, 5, 6, 7, 8, 9, 0] [] rfl rfl) ?_
                    exact hK810 _ _ ⟨v_t504, v_t505, v_t506, v_t507, v_t508, w64 (v_t509 + 1), h, rfl, rfl⟩
              · have h := ite_f hc h
                refine cw_exit ?_
                refine ex_te ?_
                refine ex_te ?_
                refine ex_be ?_
                refine ex_bn ?_
                refine ex_kx ?_
                refine Says.kx (S' := [(0, SL 2 cSample v_a1), (1, I v_a2), (2, I v_a3), (11, I v_t504), (12, I v_t505), (13, I v_t506), (14, I v_t507), (15, B v_t508), (16, I v_t455)]) (O' := []) (says_pick [1, 2, 3, 4, 5, 6, 7, 8, 9] [] rfl rfl) ?_
                exact hK778 _ _ ⟨v_t504, v_t505, v_t506, v_t507, v_t508, h, rfl, rfl⟩
        · have h := ite_f hc h
          refine cw_exit ?_
          refine ex_te ?_
          refine ex_te ?_
          refine ex_be ?_
          refine ex_kx ?_
          refine Says.kx (S' := [(13, I v_t452), (14, I v_t453), (15, B v_t454)]) (O' := []) (says_pick [6, 7, 8] [] rfl rfl) ?_
          exact hK424 _ _ ⟨v_t452, v_t453, v_t454, h, rfl, rfl⟩
  ·
    refine cw_seq fun K826 hK826 => ?_
    refine cw_region ?_
    refine nx_o (op_assign (Can.int _ _ _)) rfl ?_
    refine nx_nil ?_
    refine ex_kx (hK826 _ _ ?_)
    refine cw_block ?_
    refine Says.cw (S' := [(0, SL 2 cSample v_a1), (1, I v_a2), (2, I v_a3), (9, I 0), (10, I 0)]) (O' := []) (says_pick [2, 3, 4, 1, 0] [] rfl rfl) ?_
    refine cw_loopJ (fun n S O => ∃ (v_t519 : Int) (v_t520 : Int), orchref2_Split_l3 N v_a1 v_a2 v_a3 n v_t519 v_t520 = some r ∧ S = [(0, SL 2 cSample v_a1), (1, I v_a2), (2, I v_a3), (9, I v_t519), (10, I v_t520)] ∧ O = []) ?_ ?_ N ⟨0, 0, h, rfl, rfl⟩
    · rintro S O ⟨v_t519, v_t520, h, -, -⟩
      simp [orchref2_Split_l3] at h
    · rintro n_3 S O ⟨v_t519, v_t520, h, rfl, rfl⟩ K833 hK833
      rw [orchref2_Split_l3] at h
      refine cw_seq fun K834 hK834 => ?_
      refine cw_seq fun K835 hK835 => ?_
      refine cw_region ?_
      refine nx_o (op_move (.tmp 4 rfl)) rfl ?_
      refine nx_o (op_move (.tmp 1 rfl)) rfl ?_
      refine nx_o (op_len (.tmp 0 rfl) u50) rfl ?_
      refine nx_o (op_lss (.tmp 2 rfl) (.tmp 0 rfl)) rfl ?_
      refine nx_nil ?_
      refine Says.ex (S' := [(28, B (decide (v_t520 < (v_a1.length : Int)))), (0, SL 2 cSample v_a1), (1, I v_a2), (2, I v_a3), (9, I v_t519), (10, I v_t520)]) (O' := []) (says_pick [0, 4, 5, 6, 7, 8] [] rfl rfl) ?_
      refine ex_kx (hK835 _ _ ?_)
      refine cw_cond (b := (decide (v_t520 < (v_a1.length : Int)))) (.tmp 0 rfl) (fun hc => ?_) (fun hc => ?_)
      · have h := ite_t hc h
        refine cw_skip ?_
        refine ex_kx (hK834 _ _ ?_)
        refine cw_seq fun K836 hK836 => ?_
        refine cw_block ?_
        refine cw_region ?_
        refine nx_o (op_move (.tmp 4 rfl)) rfl ?_
        refine nx_o (op_move (.tmp 2 rfl)) rfl ?_
        refine nx_o (op_move (.tmp 7 rfl)) rfl ?_
        obtain ⟨v_y521, hv_y521, h⟩ := bnd h
        refine nx_o (op_indexX hv_y521 (.tmp 1 rfl) (.tmp 0 rfl) u50 s146) rfl ?_
        refine nx_o (op_field (.tmp 0 rfl) o146_1) rfl ?_
        refine nx_o (op_load1 (.tmp 0 rfl) a3) rfl ?_
        refine nx_o (op_add (.tmp 5 rfl) (.tmp 0 rfl)) rfl ?_
        refine nx_k [0, 1, 2, 3, 4, 5, 6, 7, 8, 9, 10, 12] (op_assign (.tmp 0 rfl)) rfl rfl ?_
        show Nx _ _ _ _ _ [(9, I (w64 (v_t519 + v_y521.target))), (37, I (w64 (v_t519 + v_y521.target))), (36, I v_y521.target), (35, .ptr ((cSample v_y521).drop 1)), (34, .ptr (cSample v_y521)), (33, I v_t520), (32, SL 2 cSample v_a1), (31, I v_t519), (28, B (decide (v_t520 < (v_a1.length : Int)))), (0, SL 2 cSample v_a1), (1, I v_a2), (2, I v_a3), (10, I v_t520)] []
        refine nx_nil ?_
        refine Says.ex (S' := [(9, I (w64 (v_t519 + v_y521.target))), (0, SL 2 cSample v_a1), (1, I v_a2), (2, I v_a3), (10, I v_t520)]) (O' := []) (says_pick [0, 9, 10, 11, 12] [] rfl rfl) ?_
        refine ex_bn ?_
        refine ex_kx (hK836 _ _ ?_)
        refine cw_region ?_
        refine nx_o (op_move (.tmp 4 rfl)) rfl ?_
        refine nx_o (op_add (.tmp 0 rfl) (Can.int _ _ _)) rfl ?_
        refine nx_k [0, 1, 2, 3, 4, 5] (op_assign (.tmp 0 rfl)) rfl rfl ?_
        show Nx _ _ _ _ _ [(10, I (w64 (v_t520 + 1))), (30, I (w64 (v_t520 + 1))), (29, I v_t520), (9, I (w64 (v_t519 + v_y521.target))), (0, SL 2 cSample v_a1), (1, I v_a2), (2, I v_a3)] []
        refine nx_nil ?_
        refine Says.ex (S' := [(10, I (w64 (v_t520 + 1))), (9, I (w64 (v_t519 + v_y521.target))), (0, SL 2 cSample v_a1), (1, I v_a2), (2, I v_a3)]) (O' := []) (says_pick [0, 3, 4, 5, 6] [] rfl rfl) ?_
        refine ex_kx ?_
        refine Says.kx (S' := [(0, SL 2 cSample v_a1), (1, I v_a2), (2, I v_a3), (9, I (w64 (v_t519 + v_y521.target))), (10, I (w64 (v_t520 + 1)))]) (O' := []) (says_pick [2, 3, 4, 1, 0] [] rfl rfl) ?_
        exact hK833 _ _ ⟨w64 (v_t519 + v_y521.target), w64 (v_t520 + 1), h, rfl, rfl⟩
      · have h := ite_f hc h
        refine cw_exit ?_
        refine ex_te ?_
        refine ex_te ?_
        refine ex_be ?_
        refine ex_kx ?_
        refine Says.kx (S' := [(0, SL 2 cSample v_a1), (1, I v_a2), (2, I v_a3), (9, I v_t519)]) (O' := []) (says_pick [1, 2, 3, 4] [] rfl rfl) ?_
        exact hK15 _ _ ⟨v_t519, h, rfl, rfl⟩

theorem f100_fn (N : Nat) (v_n1 : Int) (r : Bool) (h : grow_Least N v_n1 = some r) : Fn Go.Proofs.Tryd.prog 100 [I v_n1] [] (B r) [] := by
  unfold grow_Least at h
  refine fn_intro [] fun100 rfl rfl (Nat.le_of_ble_eq_true rfl) rfl rfl (fun w G V => ?_)
  show Cw _ _ _ _ [(0, I v_n1)] []
  refine cw_seq fun K1 hK1 => ?_
  refine cw_region ?_
  refine nx_o (op_assign (Can.bool _ _)) rfl ?_
  refine nx_nil ?_
  refine Says.ex (S' := [(0, I v_n1)]) (O' := []) (says_pick [1] [] rfl rfl) ?_
  refine ex_kx (hK1 _ _ ?_)
  refine cw_seq fun K2 hK2 => ?_
  refine cw_region ?_
  refine nx_o (op_move (.tmp 0 rfl)) rfl ?_
  refine nx_o (op_geq (.tmp 0 rfl) (Can.int _ _ _)) rfl ?_
  refine nx_o (op_move (.tmp 0 rfl)) rfl ?_
  refine nx_g (opy_guard (cc := (decide (v_n1 ≥ 1))) (.plain 0 rfl) rfl rfl (fun hg => (op_move (.tmp 3 rfl)))) rfl ?_
  refine nx_g (opy_guard (cc := (decide (v_n1 ≥ 1))) (.plain 1 rfl) rfl rfl (fun hg => (op_leq (.cd 0 rfl hg) (Can.int _ _ _)))) rfl ?_
  refine nx_o (op_and (.tmp 2 rfl) (fun hp => (.cd 0 rfl hp))) rfl ?_
  refine nx_o (op_assign (.tmp 0 rfl)) rfl ?_
  refine nx_nil ?_
  refine Says.ex (S' := [(2, B ((decide (v_n1 ≥ 1)) && (decide (v_n1 ≤ 60))))]) (O' := []) (says_pick [0] [] rfl rfl) ?_
  refine ex_kx (hK2 _ _ ?_)
  refine cw_ret ?_
  cases h
  exact ex_done (.inl rfl) rfl (fun a w G V hs _ hS => res1 rfl (.tmp 0 rfl) a w G V hS)

theorem f149_fn (N : Nat) (v_l1 : List Sample) (r : Int) (h : grow_sum N v_l1 = some r) : Fn Go.Proofs.Tryd.prog 149 [SL 2 cSample v_l1] [] (I r) [] := by
  unfold grow_sum at h
  refine fn_intro [] fun149 rfl rfl (Nat.le_of_ble_eq_true rfl) rfl rfl (fun w G V => ?_)
  show Cw _ _ _ _ [(0, SL 2 cSample v_l1)] []
  refine cw_seq fun K1 hK1 => ?_
  refine cw_region ?_
  refine nx_o (op_assign (Can.int _ _ _)) rfl ?_
  refine nx_nil ?_
  refine Says.ex (S' := [(0, SL 2 cSample v_l1)]) (O' := []) (says_pick [1] [] rfl rfl) ?_
  refine ex_kx (hK1 _ _ ?_)
  refine cw_seq fun K2 hK2 => ?_
  refine cw_region ?_
  refine nx_o (op_assign (Can.int _ _ _)) rfl ?_
  refine nx_nil ?_
  refine ex_kx (hK2 _ _ ?_)
  refine cw_join (fun S O => ∃ (v_n9 : Int), grow_sum_j1 N v_n9 = some r ∧ S = [(3, I v_n9)] ∧ O = []) ?_ (fun K18 hK18 => ?_)
  · rintro S O ⟨v_n9, h, rfl, rfl⟩
    unfold grow_sum_j1 at h
    refine cw_seq fun K19 hK19 => ?_
    refine cw_region ?_
    refine nx_o (op_move (.tmp 0 rfl)) rfl ?_
    refine nx_o (op_assign (.tmp 0 rfl)) rfl ?_
    refine nx_nil ?_
    refine Says.ex (S' := [(2, I v_n9)]) (O' := []) (says_pick [0] [] rfl rfl) ?_
    refine ex_kx (hK19 _ _ ?_)
    refine cw_ret ?_
    cases h
    exact ex_done (.inl rfl) rfl (fun a w G V hs _ hS => res1 rfl (.tmp 0 rfl) a w G V hS)
  ·
    refine cw_seq fun K20 hK20 => ?_
    refine cw_region ?_
    refine nx_o (op_move (.tmp 1 rfl)) rfl ?_
    refine nx_o (op_len (.tmp 0 rfl) u50) rfl ?_
    refine nx_o (op_move (Can.int _ _ _)) rfl ?_
    refine nx_nil ?_
    refine Says.ex (S' := [(8, I 0), (7, I (v_l1.length : Int)), (6, SL 2 cSample v_l1), (3, I 0)]) (O' := []) (says_pick [0, 1, 2, 3] [] rfl rfl) ?_
    refine ex_kx (hK20 _ _ ?_)
    refine cw_block ?_
    refine Says.cw (S' := [(3, I 0), (6, SL 2 cSample v_l1), (7, I (v_l1.length : Int)), (8, I 0)]) (O' := []) (says_pick [3, 2, 1, 0] [] rfl rfl) ?_
    refine cw_loopJ (fun n S O => ∃ (v_n14 : Int) (v_t15 : Int), grow_sum_l1 N v_l1 n v_n14 v_t15 = some r ∧ S = [(3, I v_n14), (6, SL 2 cSample v_l1), (7, I (v_l1.length : Int)), (8, I v_t15)] ∧ O = []) ?_ ?_ N ⟨0, 0, h, rfl, rfl⟩
    · rintro S O ⟨v_n14, v_t15, h, -, -⟩
      simp [grow_sum_l1] at h
    · rintro n_1 S O ⟨v_n14, v_t15, h, rfl, rfl⟩ K29 hK29
      rw [grow_sum_l1] at h
      refine cw_seq fun K30 hK30 => ?_
      refine cw_region ?_
      refine nx_o (op_lss (.tmp 3 rfl) (.tmp 2 rfl)) rfl ?_
      refine nx_nil ?_
      refine ex_kx (hK30 _ _ ?_)
      refine cw_seq fun K31 hK31 => ?_
      refine cw_cond (b := (decide (v_t15 < (v_l1.length : Int)))) (.tmp 0 rfl) (fun hc => ?_) (fun hc => ?_)
      · have h := ite_t hc h
        refine cw_skip ?_
        refine ex_kx (hK31 _ _ ?_)
        refine cw_seq fun K32 hK32 => ?_
        refine cw_block ?_
        refine cw_seq fun K33 hK33 => ?_
        refine cw_region ?_
        obtain ⟨v_y16, hv_y16, h⟩ := bnd h
        refine nx_o (op_indexX hv_y16 (.tmp 2 rfl) (.tmp 4 rfl) u50 s146) rfl ?_
        refine nx_o (op_loadA (cSample v_y16) (.tmp 0 rfl) a146 s146 rfl) rfl ?_
        refine nx_op (op_alloc 106 (cSample (Sample.mk [] 0)) za146 zSample rfl) rfl ?_
        show Nx _ _ _ _ _ [(5, .ref 106), (11, .agg (cSample v_y16)), (10, .ptr (cSample v_y16)), (9, B (decide (v_t15 < (v_l1.length : Int)))), (3, I v_n14), (6, SL 2 cSample v_l1), (7, I (v_l1.length : Int)), (8, I v_t15)] [(106, .var 146 [SL 1 cI [], I 0])]
        refine nx_o0 (op_storeVA (its := (cSample v_y16)) (.tmp 0 rfl) 0 rfl (.agg (.tmp 1 rfl)) rfl s146) ?_
        show Nx _ _ _ _ _ [(5, .ref 106), (11, .agg (cSample v_y16)), (10, .ptr (cSample v_y16)), (9, B (decide (v_t15 < (v_l1.length : Int)))), (3, I v_n14), (6, SL 2 cSample v_l1), (7, I (v_l1.length : Int)), (8, I v_t15)] [(106, .var 146 [SL 1 cI v_y16.row, I v_y16.target])]
        refine nx_nil ?_
        refine Says.ex (S' := [(5, .ref 106), (3, I v_n14), (6, SL 2 cSample v_l1), (7, I (v_l1.length : Int)), (8, I v_t15)]) (O' := [(106, .var 146 [SL 1 cI v_y16.row, I v_y16.target])]) (says_pick [0, 4, 5, 6, 7] [0] rfl rfl) ?_
        refine ex_kx (hK33 _ _ ?_)
        refine cw_region ?_
        refine nx_o (op_move (.tmp 1 rfl)) rfl ?_
        refine nx_o (op_fieldVar (.tmp 1 rfl) 0 rfl o146_1) rfl ?_
        refine nx_o (op_loadV (.tmp 0 rfl) 0 rfl rfl a3) rfl ?_
        refine nx_o (op_add (.tmp 2 rfl) (.tmp 0 rfl)) rfl ?_
        refine nx_k [0, 1, 2, 3, 4, 6, 7, 8] (op_assign (.tmp 0 rfl)) rfl rfl ?_
        show Nx _ _ _ _ _ [(3, I (w64 (v_n14 + v_y16.target))), (15, I (w64 (v_n14 + v_y16.target))), (14, I v_y16.target), (13, .pt 106 1), (12, I v_n14), (5, .ref 106), (6, SL 2 cSample v_l1), (7, I (v_l1.length : Int)), (8, I v_t15)] [(106, .var 146 [SL 1 cI v_y16.row, I v_y16.target])]
        refine nx_nil ?_
        refine Says.ex (S' := [(3, I (w64 (v_n14 + v_y16.target))), (6, SL 2 cSample v_l1), (7, I (v_l1.length : Int)), (8, I v_t15)]) (O' := []) (says_pick [0, 6, 7, 8] [] rfl rfl) ?_
        refine ex_bn ?_
        refine ex_kx (hK32 _ _ ?_)
        refine cw_region ?_
        refine nx_o (op_add (.tmp 3 rfl) (Can.int _ _ _)) rfl ?_
        refine nx_k [0, 1, 2, 3] (op_move (.tmp 0 rfl)) rfl rfl ?_
        show Nx _ _ _ _ _ [(8, I (w64 (v_t15 + 1))), (16, I (w64 (v_t15 + 1))), (3, I (w64 (v_n14 + v_y16.target))), (6, SL 2 cSample v_l1), (7, I (v_l1.length : Int))] []
        refine nx_nil ?_
        refine Says.ex (S' := [(8, I (w64 (v_t15 + 1))), (3, I (w64 (v_n14 + v_y16.target))), (6, SL 2 cSample v_l1), (7, I (v_l1.length : Int))]) (O' := []) (says_pick [0, 2, 3, 4] [] rfl rfl) ?_
        refine ex_kx ?_
        refine Says.kx (S' := [(3, I (w64 (v_n14 + v_y16.target))), (6, SL 2 cSample v_l1), (7, I (v_l1.length : Int)), (8, I (w64 (v_t15 + 1)))]) (O' := []) (says_pick [1, 2, 3, 0] [] rfl rfl) ?_
        exact hK29 _ _ ⟨w64 (v_n14 + v_y16.target), w64 (v_t15 + 1), h, rfl, rfl⟩
      · have h := ite_f hc h
        refine cw_exit ?_
        refine ex_te ?_
        refine ex_te ?_
        refine ex_be ?_
        refine ex_kx ?_
        refine Says.kx (S' := [(3, I v_n14)]) (O' := []) (says_pick [1] [] rfl rfl) ?_
        exact hK18 _ _ ⟨v_n14, h, rfl, rfl⟩

theorem f152_fn (N : Nat) (v_l1 : List Sample) (v_feature2 : Int) (v_cut3 : Int) (r : (List Sample) × (List Sample)) (h : grow_part N v_l1 v_feature2 v_cut3 = some r) : Fn Go.Proofs.Tryd.prog 152 [SL 2 cSample v_l1, I v_feature2, I v_cut3] [] (.tup [SL 2 cSample r.1, SL 2 cSample r.2]) [] := by
  unfold grow_part at h
  refine fn_intro [] fun152 rfl rfl (Nat.le_of_ble_eq_true rfl) rfl rfl (fun w G V => ?_)
  show Cw _ _ _ _ [(0, SL 2 cSample v_l1), (1, I v_feature2), (2, I v_cut3)] []
  refine cw_seq fun K1 hK1 => ?_
  refine cw_region ?_
  refine nx_o (op_assign (Can.raw _ _)) rfl ?_
  refine nx_o (op_assign (Can.raw _ _)) rfl ?_
  refine nx_nil ?_
  refine ex_kx (hK1 _ _ ?_)
  refine cw_join (fun S O => ∃ (v_below22 : List Sample) (v_rest23 : List Sample), grow_part_j1 N v_below22 v_rest23 = some r ∧ S = [(6, .ref 103), (7, .ref 105)] ∧ O = [(103, .row 146 2 cSample v_below22), (105, .row 146 2 cSample v_rest23)]) ?_ (fun K20 hK20 => ?_)
  · rintro S O ⟨v_below22, v_rest23, h, rfl, rfl⟩
    unfold grow_part_j1 at h
    refine cw_seq fun K21 hK21 => ?_
    refine cw_region ?_
    refine nx_o (op_move (.tmp 0 rfl)) rfl ?_
    refine nx_o (op_move (.tmp 2 rfl)) rfl ?_
    refine nx_k [0, 1, 3] (op_assign (.tmp 1 rfl)) rfl rfl ?_
    show Nx _ _ _ _ _ [(6, .ref 103), (33, .ref 105), (32, .ref 103), (7, .ref 105)] [(103, .row 146 2 cSample v_below22), (105, .row 146 2 cSample v_rest23)]
    refine nx_k [0, 1, 2] (op_assign (.tmp 1 rfl)) rfl rfl ?_
    show Nx _ _ _ _ _ [(7, .ref 105), (6, .ref 103), (33, .ref 105), (32, .ref 103)] [(103, .row 146 2 cSample v_below22), (105, .row 146 2 cSample v_rest23)]
    refine nx_nil ?_
    refine Says.ex (S' := [(7, .ref 105), (6, .ref 103)]) (O' := [(103, .row 146 2 cSample v_below22), (105, .row 146 2 cSample v_rest23)]) (says_pick [0, 1] [0, 1] rfl rfl) ?_
    refine ex_kx (hK21 _ _ ?_)
    refine cw_ret ?_
    refine Says.ex (says_freezeRow (k := 103) 0 rfl rfl (fun _ => rfl) rfl rfl) ?_
    show Ex _ _ _ [(7, .ref 105), (6, SL 2 cSample v_below22)] [(105, .row 146 2 cSample v_rest23)]
    refine Says.ex (says_freezeRow (k := 105) 0 rfl rfl (fun _ => rfl) rfl rfl) ?_
    show Ex _ _ _ [(7, SL 2 cSample v_rest23), (6, SL 2 cSample v_below22)] []
    cases h
    refine Says.ex (S' := [(6, SL 2 cSample v_below22), (7, SL 2 cSample v_rest23)]) (O' := []) (says_pick [1, 0] [] rfl rfl) ?_
    exact ex_done (.inl rfl) rfl (fun a w G V hs _ hS => resM rfl (.tmp (.tmp 0 rfl) (.tmp (.tmp 1 rfl) .nil)) a w G V hs hS)
  ·
    refine cw_seq fun K22 hK22 => ?_
    refine cw_region ?_
    refine nx_o (op_move (.tmp 2 rfl)) rfl ?_
    refine nx_o (op_len (.tmp 0 rfl) u50) rfl ?_
    refine nx_o (op_move (Can.int _ _ _)) rfl ?_
    refine nx_nil ?_
    refine Says.ex (S' := [(12, I 0), (11, I (v_l1.length : Int)), (10, SL 2 cSample v_l1), (7, .raw (.slice none 0 0)), (6, .raw (.slice none 0 0)), (1, I v_feature2), (2, I v_cut3)]) (O' := []) (says_pick [0, 1, 2, 3, 4, 6, 7] [] rfl rfl) ?_
    refine ex_kx (hK22 _ _ ?_)
    refine cw_block ?_
    refine Says.cw (says_ownNil 6 114 146 2 cSample 4 rfl rfl rfl rfl) ?_
    show Cw _ _ _ _ [(12, I 0), (11, I (v_l1.length : Int)), (10, SL 2 cSample v_l1), (7, .raw (.slice none 0 0)), (6, .ref 114), (1, I v_feature2), (2, I v_cut3)] [(114, .row 146 2 cSample [])]
    refine Says.cw (says_ownNil 7 116 146 2 cSample 3 rfl rfl rfl rfl) ?_
    show Cw _ _ _ _ [(12, I 0), (11, I (v_l1.length : Int)), (10, SL 2 cSample v_l1), (7, .ref 116), (6, .ref 114), (1, I v_feature2), (2, I v_cut3)] [(116, .row 146 2 cSample []), (114, .row 146 2 cSample [])]
    refine Says.cw (S' := [(1, I v_feature2), (2, I v_cut3), (6, .ref 114), (7, .ref 116), (10, SL 2 cSample v_l1), (11, I (v_l1.length : Int)), (12, I 0)]) (O' := [(116, .row 146 2 cSample []), (114, .row 146 2 cSample [])]) (says_pick [5, 6, 4, 3, 2, 1, 0] [0, 1] rfl rfl) ?_
    refine Says.cw (S' := [(1, I v_feature2), (2, I v_cut3), (6, .ref 114), (7, .ref 116), (10, SL 2 cSample v_l1), (11, I (v_l1.length : Int)), (12, I 0)]) (O' := [(114, .row 146 2 cSample []), (116, .row 146 2 cSample [])]) (says_pick [0, 1, 2, 3, 4, 5, 6] [1, 0] rfl rfl) ?_
    refine cw_loopJ (fun n S O => ∃ (v_below35 : List Sample) (v_rest36 : List Sample) (v_t37 : Int), grow_part_l1 N v_l1 v_feature2 v_cut3 n v_below35 v_rest36 v_t37 = some r ∧ S = [(1, I v_feature2), (2, I v_cut3), (6, .ref 114), (7, .ref 116), (10, SL 2 cSample v_l1), (11, I (v_l1.length : Int)), (12, I v_t37)] ∧ O = [(114, .row 146 2 cSample v_below35), (116, .row 146 2 cSample v_rest36)]) ?_ ?_ N ⟨[], [], 0, h, rfl, rfl⟩
    · rintro S O ⟨v_below35, v_rest36, v_t37, h, -, -⟩
      simp [grow_part_l1] at h
    · rintro n_1 S O ⟨v_below35, v_rest36, v_t37, h, rfl, rfl⟩ K33 hK33
      rw [grow_part_l1] at h
      refine cw_seq fun K34 hK34 => ?_
      refine cw_region ?_
      refine nx_o (op_lss (.tmp 6 rfl) (.tmp 5 rfl)) rfl ?_
      refine nx_nil ?_
      refine ex_kx (hK34 _ _ ?_)
      refine cw_seq fun K35 hK35 => ?_
      refine cw_cond (b := (decide (v_t37 < (v_l1.length : Int)))) (.tmp 0 rfl) (fun hc => ?_) (fun hc => ?_)
      · have h := ite_t hc h
        refine cw_skip ?_
        refine ex_kx (hK35 _ _ ?_)
        refine cw_seq fun K36 hK36 => ?_
        refine cw_block ?_
        refine cw_seq fun K37 hK37 => ?_
        refine cw_region ?_
        obtain ⟨v_y38, hv_y38, h⟩ := bnd h
        refine nx_o (op_indexX hv_y38 (.tmp 5 rfl) (.tmp 7 rfl) u50 s146) rfl ?_
        refine nx_o (op_loadA (cSample v_y38) (.tmp 0 rfl) a146 s146 rfl) rfl ?_
        refine nx_op (op_alloc 120 (cSample (Sample.mk [] 0)) za146 zSample rfl) rfl ?_
        show Nx _ _ _ _ _ [(9, .ref 120), (15, .agg (cSample v_y38)), (14, .ptr (cSample v_y38)), (13, B (decide (v_t37 < (v_l1.length : Int)))), (1, I v_feature2), (2, I v_cut3), (6, .ref 114), (7, .ref 116), (10, SL 2 cSample v_l1), (11, I (v_l1.length : Int)), (12, I v_t37)] [(120, .var 146 [SL 1 cI [], I 0]), (114, .row 146 2 cSample v_below35), (116, .row 146 2 cSample v_rest36)]
        refine nx_o0 (op_storeVA (its := (cSample v_y38)) (.tmp 0 rfl) 0 rfl (.agg (.tmp 1 rfl)) rfl s146) ?_
        show Nx _ _ _ _ _ [(9, .ref 120), (15, .agg (cSample v_y38)), (14, .ptr (cSample v_y38)), (13, B (decide (v_t37 < (v_l1.length : Int)))), (1, I v_feature2), (2, I v_cut3), (6, .ref 114), (7, .ref 116), (10, SL 2 cSample v_l1), (11, I (v_l1.length : Int)), (12, I v_t37)] [(120, .var 146 [SL 1 cI v_y38.row, I v_y38.target]), (114, .row 146 2 cSample v_below35), (116, .row 146 2 cSample v_rest36)]
        refine nx_nil ?_
        refine Says.ex (S' := [(9, .ref 120), (1, I v_feature2), (2, I v_cut3), (6, .ref 114), (7, .ref 116), (10, SL 2 cSample v_l1), (11, I (v_l1.length : Int)), (12, I v_t37)]) (O' := [(120, .var 146 [SL 1 cI v_y38.row, I v_y38.target]), (114, .row 146 2 cSample v_below35), (116, .row 146 2 cSample v_rest36)]) (says_pick [0, 4, 5, 6, 7, 8, 9, 10] [0, 1, 2] rfl rfl) ?_
        refine ex_kx (hK37 _ _ ?_)
        refine cw_seq fun K38 hK38 => ?_
        refine cw_region ?_
        refine nx_o (op_fieldVar (.tmp 0 rfl) 0 rfl o146_0) rfl ?_
        refine nx_o (op_loadV (.tmp 0 rfl) 0 rfl rfl a22) rfl ?_
        refine nx_o (op_move (.tmp 3 rfl)) rfl ?_
        obtain ⟨v_y39, hv_y39, h⟩ := bnd h
        refine nx_o (op_indexX hv_y39 (.tmp 1 rfl) (.tmp 0 rfl) u22 s3) rfl ?_
        refine nx_o (op_load1 (.tmp 0 rfl) a3) rfl ?_
        refine nx_o (op_move (.tmp 7 rfl)) rfl ?_
        refine nx_o (op_lss (.tmp 1 rfl) (.tmp 0 rfl)) rfl ?_
        refine nx_nil ?_
        refine Says.ex (S' := [(22, B (decide (v_y39 < v_cut3))), (9, .ref 120), (1, I v_feature2), (2, I v_cut3), (6, .ref 114), (7, .ref 116), (10, SL 2 cSample v_l1), (11, I (v_l1.length : Int)), (12, I v_t37)]) (O' := [(120, .var 146 [SL 1 cI v_y38.row, I v_y38.target]), (114, .row 146 2 cSample v_below35), (116, .row 146 2 cSample v_rest36)]) (says_pick [0, 7, 8, 9, 10, 11, 12, 13, 14] [0, 1, 2] rfl rfl) ?_
        refine ex_kx (hK38 _ _ ?_)
        refine cw_cond (b := (decide (v_y39 < v_cut3))) (.tmp 0 rfl) (fun hc => ?_) (fun hc => ?_)
        · have h := ite_t hc h
          refine cw_region ?_
          refine nx_o (op_move (.tmp 4 rfl)) rfl ?_
          refine nx_o (op_loadVA (its := (cSample v_y38)) (.tmp 2 rfl) 0 rfl a146 s146) rfl ?_
          refine nx_o (op_buildSlice (cSample (Sample.mk [] 0)) (n := 2) (c := cSample) ([v_y38] : List Sample) bl50 zSample (by decide) (by decide) (.cons (.agg (.tmp 0 rfl)) rfl (Nat.le_of_ble_eq_true rfl) .nil) rfl rfl (fun _ => rfl)) rfl ?_
          obtain ⟨v_t40, hv_t40, h⟩ := bnd h
          refine nx_k [0, 1, 3, 4, 5, 6, 8, 9, 10, 11] (op_appendX hv_t40 121 (.tmp 2 rfl) 1 rfl (.tmp 0 rfl) u50 i146 (by decide) (by decide) (fun _ => rfl) rfl rfl) rfl rfl ?_
          show Nx _ _ _ _ _ [(26, .ref 121), (25, SL 2 cSample [v_y38]), (24, .agg (cSample v_y38)), (22, B (decide (v_y39 < v_cut3))), (9, .ref 120), (1, I v_feature2), (2, I v_cut3), (7, .ref 116), (10, SL 2 cSample v_l1), (11, I (v_l1.length : Int)), (12, I v_t37)] [(121, .row 146 2 cSample v_t40), (120, .var 146 [SL 1 cI v_y38.row, I v_y38.target]), (116, .row 146 2 cSample v_rest36)]
          refine nx_o (op_assign (.tmp 0 rfl)) rfl ?_
          refine nx_nil ?_
          refine Says.ex (S' := [(6, .ref 121), (1, I v_feature2), (2, I v_cut3), (7, .ref 116), (10, SL 2 cSample v_l1), (11, I (v_l1.length : Int)), (12, I v_t37)]) (O' := [(121, .row 146 2 cSample v_t40), (116, .row 146 2 cSample v_rest36)]) (says_pick [0, 6, 7, 8, 9, 10, 11] [0, 2] rfl rfl) ?_
          refine ex_bn ?_
          refine ex_kx (hK36 _ _ ?_)
          refine cw_region ?_
          refine nx_o (op_add (.tmp 6 rfl) (Can.int _ _ _)) rfl ?_
          refine nx_k [0, 1, 2, 3, 4, 5, 6] (op_move (.tmp 0 rfl)) rfl rfl ?_
          show Nx _ _ _ _ _ [(12, I (w64 (v_t37 + 1))), (31, I (w64 (v_t37 + 1))), (6, .ref 121), (1, I v_feature2), (2, I v_cut3), (7, .ref 116), (10, SL 2 cSample v_l1), (11, I (v_l1.length : Int))] [(121, .row 146 2 cSample v_t40), (116, .row 146 2 cSample v_rest36)]
          refine nx_nil ?_
          refine Says.ex (S' := [(12, I (w64 (v_t37 + 1))), (6, .ref 121), (1, I v_feature2), (2, I v_cut3), (7, .ref 116), (10, SL 2 cSample v_l1), (11, I (v_l1.length : Int))]) (O' := [(121, .row 146 2 cSample v_t40), (116, .row 146 2 cSample v_rest36)]) (says_pick [0, 2, 3, 4, 5, 6, 7] [0, 1] rfl rfl) ?_
          refine ex_kx ?_
          refine Says.kx (S' := [(1, I v_feature2), (2, I v_cut3), (6, .ref 121), (7, .ref 116), (10, SL 2 cSample v_l1), (11, I (v_l1.length : Int)), (12, I (w64 (v_t37 + 1)))]) (O' := [(121, .row 146 2 cSample v_t40), (116, .row 146 2 cSample v_rest36)]) (says_pick [2, 3, 1, 4, 5, 6, 0] [0, 1] rfl rfl) ?_
          refine Says.kx (says_swap 121 114 rfl rfl rfl rfl) ?_
          exact hK33 _ _ ⟨v_t40, v_rest36, w64 (v_t37 + 1), h, rfl, rfl⟩
        · have h := ite_f hc h
          refine cw_region ?_
          refine nx_o (op_move (.tmp 5 rfl)) rfl ?_
          refine nx_o (op_loadVA (its := (cSample v_y38)) (.tmp 2 rfl) 0 rfl a146 s146) rfl ?_
          refine nx_o (op_buildSlice (cSample (Sample.mk [] 0)) (n := 2) (c := cSample) ([v_y38] : List Sample) bl50 zSample (by decide) (by decide) (.cons (.agg (.tmp 0 rfl)) rfl (Nat.le_of_ble_eq_true rfl) .nil) rfl rfl (fun _ => rfl)) rfl ?_
          obtain ⟨v_t41, hv_t41, h⟩ := bnd h
          refine nx_k [0, 1, 3, 4, 5, 6, 7, 9, 10, 11] (op_appendX hv_t41 122 (.tmp 2 rfl) 2 rfl (.tmp 0 rfl) u50 i146 (by decide) (by decide) (fun _ => rfl) rfl rfl) rfl rfl ?_
          show Nx _ _ _ _ _ [(30, .ref 122), (29, SL 2 cSample [v_y38]), (28, .agg (cSample v_y38)), (22, B (decide (v_y39 < v_cut3))), (9, .ref 120), (1, I v_feature2), (2, I v_cut3), (6, .ref 114), (10, SL 2 cSample v_l1), (11, I (v_l1.length : Int)), (12, I v_t37)] [(122, .row 146 2 cSample v_t41), (120, .var 146 [SL 1 cI v_y38.row, I v_y38.target]), (114, .row 146 2 cSample v_below35)]
          refine nx_o (op_assign (.tmp 0 rfl)) rfl ?_
          refine nx_nil ?_
          refine Says.ex (S' := [(7, .ref 122), (1, I v_feature2), (2, I v_cut3), (6, .ref 114), (10, SL 2 cSample v_l1), (11, I (v_l1.length : Int)), (12, I v_t37)]) (O' := [(122, .row 146 2 cSample v_t41), (114, .row 146 2 cSample v_below35)]) (says_pick [0, 6, 7, 8, 9, 10, 11] [0, 2] rfl rfl) ?_
          refine ex_bn ?_
          refine ex_kx (hK36 _ _ ?_)
          refine cw_region ?_
          refine nx_o (op_add (.tmp 6 rfl) (Can.int _ _ _)) rfl ?_
          refine nx_k [0, 1, 2, 3, 4, 5, 6] (op_move (.tmp 0 rfl)) rfl rfl ?_
          show Nx _ _ _ _ _ [(12, I (w64 (v_t37 + 1))), (31, I (w64 (v_t37 + 1))), (7, .ref 122), (1, I v_feature2), (2, I v_cut3), (6, .ref 114), (10, SL 2 cSample v_l1), (11, I (v_l1.length : Int))] [(122, .row 146 2 cSample v_t41), (114, .row 146 2 cSample v_below35)]
          refine nx_nil ?_
          refine Says.ex (S' := [(12, I (w64 (v_t37 + 1))), (7, .ref 122), (1, I v_feature2), (2, I v_cut3), (6, .ref 114), (10, SL 2 cSample v_l1), (11, I (v_l1.length : Int))]) (O' := [(122, .row 146 2 cSample v_t41), (114, .row 146 2 cSample v_below35)]) (says_pick [0, 2, 3, 4, 5, 6, 7] [0, 1] rfl rfl) ?_
          refine ex_kx ?_
          refine Says.kx (S' := [(1, I v_feature2), (2, I v_cut3), (6, .ref 114), (7, .ref 122), (10, SL 2 cSample v_l1), (11, I (v_l1.length : Int)), (12, I (w64 (v_t37 + 1)))]) (O' := [(122, .row 146 2 cSample v_t41), (114, .row 146 2 cSample v_below35)]) (says_pick [2, 3, 4, 1, 5, 6, 0] [0, 1] rfl rfl) ?_
          refine Says.kx (says_swap 122 116 rfl rfl rfl rfl) ?_
          refine Says.kx (S' := [(1, I v_feature2), (2, I v_cut3), (6, .ref 114), (7, .ref 116), (10, SL 2 cSample v_l1), (11, I (v_l1.length : Int)), (12, I (w64 (v_t37 + 1)))]) (O' := [(114, .row 146 2 cSample v_below35), (116, .row 146 2 cSample v_t41)]) (says_pick [0, 1, 2, 3, 4, 5, 6] [1, 0] rfl rfl) ?_
          exact hK33 _ _ ⟨v_below35, v_t41, w64 (v_t37 + 1), h, rfl, rfl⟩
      · have h := ite_f hc h
        refine cw_exit ?_
        refine ex_te ?_
        refine ex_te ?_
        refine ex_be ?_
        refine ex_kx ?_
        refine Says.kx (S' := [(6, .ref 114), (7, .ref 116)]) (O' := [(114, .row 146 2 cSample v_below35), (116, .row 146 2 cSample v_rest36)]) (says_pick [3, 4] [0, 1] rfl rfl) ?_
        refine Says.kx (says_swap 114 103 rfl rfl rfl rfl) ?_
        refine Says.kx (says_swap 116 105 rfl rfl rfl rfl) ?_
        exact hK20 _ _ ⟨v_below35, v_rest36, h, rfl, rfl⟩

theorem f101_fn (N : Nat) (v_a1 : List Sample) (v_a2 : Int) (v_a3 : Int) (r : Int × Int) (h : grow_best N v_a1 v_a2 v_a3 = some r) : Fn Go.Proofs.Tryd.prog 101 [SL 2 cSample v_a1, I v_a2, I v_a3] [] (.tup [I r.1, I r.2]) [] := by
  unfold grow_best at h
  refine fn_intro [] fun101 rfl rfl (Nat.le_of_ble_eq_true rfl) rfl rfl (fun w G V => ?_)
  show Cw _ _ _ _ [(0, SL 2 cSample v_a1), (1, I v_a2), (2, I v_a3)] []
  refine cw_seq fun K1 hK1 => ?_
  refine cw_region ?_
  refine nx_o (op_assign (Can.int _ _ _)) rfl ?_
  refine nx_o (op_assign (Can.int _ _ _)) rfl ?_
  refine nx_nil ?_
  refine Says.ex (S' := [(7, I 0), (0, SL 2 cSample v_a1), (1, I v_a2), (2, I v_a3)]) (O' := []) (says_pick [0, 2, 3, 4] [] rfl rfl) ?_
  refine ex_kx (hK1 _ _ ?_)
  refine cw_seq fun K2 hK2 => ?_
  refine cw_region ?_
  refine nx_o (op_assign (Can.int _ _ _)) rfl ?_
  refine nx_nil ?_
  refine ex_kx (hK2 _ _ ?_)
  refine cw_seq fun K3 hK3 => ?_
  refine cw_region ?_
  refine nx_o (op_move (.tmp 2 rfl)) rfl ?_
  obtain ⟨v_r4, hv_r4, h⟩ := bnd h
  refine nx_o (op_call0 (show Fn Go.Proofs.Tryd.prog 149 [SL 2 cSample v_a1] [] (I v_r4) [] from (f149_fn N v_a1 _ hv_r4)) c149 (.cons (.tmp 0 rfl) .nil)) rfl ?_
  refine nx_o (op_move (.tmp 4 rfl)) rfl ?_
  obtain ⟨v_r5, hv_r5, h⟩ := bnd h
  refine nx_o (op_call0 (show Fn Go.Proofs.Tryd.prog 149 [SL 2 cSample v_a1] [] (I v_r5) [] from (f149_fn N v_a1 _ hv_r5)) c149 (.cons (.tmp 0 rfl) .nil)) rfl ?_
  refine nx_o (op_mul (.tmp 2 rfl) (.tmp 0 rfl)) rfl ?_
  refine nx_o (op_move (.tmp 7 rfl)) rfl ?_
  refine nx_o (op_len (.tmp 0 rfl) u50) rfl ?_
  refine nx_o (op_assign (.tmp 2 rfl)) rfl ?_
  refine nx_o (op_assign (.tmp 1 rfl)) rfl ?_
  refine nx_nil ?_
  refine Says.ex (S' := [(9, I (v_a1.length : Int)), (8, I (w64 (v_r4 * v_r5))), (6, I (-1)), (7, I 0), (0, SL 2 cSample v_a1), (1, I v_a2), (2, I v_a3)]) (O' := []) (says_pick [0, 1, 9, 10, 11, 12, 13] [] rfl rfl) ?_
  refine ex_kx (hK3 _ _ ?_)
  refine cw_join (fun S O => ∃ (v_t430 : Int) (v_t431 : Int), grow_best_j1 N v_t430 v_t431 = some r ∧ S = [(6, I v_t430), (7, I v_t431)] ∧ O = []) ?_ (fun K427 hK427 => ?_)
  · rintro S O ⟨v_t430, v_t431, h, rfl, rfl⟩
    unfold grow_best_j1 at h
    refine cw_seq fun K428 hK428 => ?_
    refine cw_region ?_
    refine nx_o (op_move (.tmp 0 rfl)) rfl ?_
    refine nx_o (op_move (.tmp 2 rfl)) rfl ?_
    refine nx_k [0, 1, 3] (op_assign (.tmp 1 rfl)) rfl rfl ?_
    show Nx _ _ _ _ _ [(6, I v_t430), (112, I v_t431), (111, I v_t430), (7, I v_t431)] []
    refine nx_k [0, 1, 2] (op_assign (.tmp 1 rfl)) rfl rfl ?_
    show Nx _ _ _ _ _ [(7, I v_t431), (6, I v_t430), (112, I v_t431), (111, I v_t430)] []
    refine nx_nil ?_
    refine Says.ex (S' := [(7, I v_t431), (6, I v_t430)]) (O' := []) (says_pick [0, 1] [] rfl rfl) ?_
    refine ex_kx (hK428 _ _ ?_)
    refine cw_ret ?_
    cases h
    refine Says.ex (S' := [(6, I v_t430), (7, I v_t431)]) (O' := []) (says_pick [1, 0] [] rfl rfl) ?_
    exact ex_done (.inl rfl) rfl (fun a w G V hs _ hS => resM rfl (.tmp (.tmp 0 rfl) (.tmp (.tmp 1 rfl) .nil)) a w G V hs hS)
  ·
    refine cw_seq fun K429 hK429 => ?_
    refine cw_region ?_
    refine nx_o (op_move (.tmp 5 rfl)) rfl ?_
    refine nx_o (op_move (Can.int _ _ _)) rfl ?_
    refine nx_nil ?_
    refine Says.ex (S' := [(28, I 0), (27, I v_a2), (9, I (v_a1.length : Int)), (8, I (w64 (v_r4 * v_r5))), (6, I (-1)), (7, I 0), (0, SL 2 cSample v_a1), (2, I v_a3)]) (O' := []) (says_pick [0, 1, 2, 3, 4, 5, 6, 8] [] rfl rfl) ?_
    refine ex_kx (hK429 _ _ ?_)
    refine cw_block ?_
    refine Says.cw (S' := [(0, SL 2 cSample v_a1), (2, I v_a3), (6, I (-1)), (7, I 0), (8, I (w64 (v_r4 * v_r5))), (9, I (v_a1.length : Int)), (27, I v_a2), (28, I 0)]) (O' := []) (says_pick [6, 7, 4, 5, 3, 2, 1, 0] [] rfl rfl) ?_
    refine cw_loopJ (fun n S O => ∃ (v_t715 : Int) (v_t716 : Int) (v_t717 : Int) (v_t718 : Int) (v_t719 : Int), grow_best_l1 N v_a2 v_a1 v_a3 n v_t715 v_t716 v_t717 v_t718 v_t719 = some r ∧ S = [(0, SL 2 cSample v_a1), (2, I v_a3), (6, I v_t715), (7, I v_t716), (8, I v_t717), (9, I v_t718), (27, I v_a2), (28, I v_t719)] ∧ O = []) ?_ ?_ N ⟨(-1), 0, w64 (v_r4 * v_r5), (v_a1.length : Int), 0, h, rfl, rfl⟩
    · rintro S O ⟨v_t715, v_t716, v_t717, v_t718, v_t719, h, -, -⟩
      simp [grow_best_l1] at h
    · rintro n_1 S O ⟨v_t715, v_t716, v_t717, v_t718, v_t719, h, rfl, rfl⟩ K710 hK710
      rw [grow_best_l1] at h
      refine cw_seq fun K711 hK711 => ?_
      refine cw_region ?_
      refine nx_o (op_lss (.tmp 7 rfl) (.tmp 6 rfl)) rfl ?_
      refine nx_nil ?_
      refine ex_kx (hK711 _ _ ?_)
      refine cw_seq fun K712 hK712 => ?_
      refine cw_cond (b := (decide (v_t719 < v_a2))) (.tmp 0 rfl) (fun hc => ?_) (fun hc => ?_)
      · have h := ite_t hc h
        refine cw_skip ?_
        refine ex_kx (hK712 _ _ ?_)
        refine cw_join (fun S O => ∃ (v_t787 : Int) (v_t788 : Int) (v_t789 : Int) (v_t790 : Int), grow_best_j2 N (grow_best_l1 N v_a2 v_a1 v_a3 n_1) v_t719 v_t787 v_t788 v_t789 v_t790 = some r ∧ S = [(0, SL 2 cSample v_a1), (2, I v_a3), (6, I v_t787), (7, I v_t788), (8, I v_t789), (9, I v_t790), (27, I v_a2), (28, I v_t719)] ∧ O = []) ?_ (fun K781 hK781 => ?_)
        · rintro S O ⟨v_t787, v_t788, v_t789, v_t790, h, rfl, rfl⟩
          unfold grow_best_j2 at h
          refine cw_region ?_
          refine nx_o (op_add (.tmp 7 rfl) (Can.int _ _ _)) rfl ?_
          refine nx_k [0, 1, 2, 3, 4, 5, 6, 7] (op_move (.tmp 0 rfl)) rfl rfl ?_
          show Nx _ _ _ _ _ [(28, I (w64 (v_t719 + 1))), (110, I (w64 (v_t719 + 1))), (0, SL 2 cSample v_a1), (2, I v_a3), (6, I v_t787), (7, I v_t788), (8, I v_t789), (9, I v_t790), (27, I v_a2)] []
          refine nx_nil ?_
          refine Says.ex (S' := [(28, I (w64 (v_t719 + 1))), (0, SL 2 cSample v_a1), (2, I v_a3), (6, I v_t787), (7, I v_t788), (8, I v_t789), (9, I v_t790), (27, I v_a2)]) (O' := []) (says_pick [0, 2, 3, 4, 5, 6, 7, 8] [] rfl rfl) ?_
          refine ex_kx ?_
          refine Says.kx (S' := [(0, SL 2 cSample v_a1), (2, I v_a3), (6, I v_t787), (7, I v_t788), (8, I v_t789), (9, I v_t790), (27, I v_a2), (28, I (w64 (v_t719 + 1)))]) (O' := []) (says_pick [1, 2, 3, 4, 5, 6, 7, 0] [] rfl rfl) ?_
          exact hK710 _ _ ⟨v_t787, v_t788, v_t789, v_t790, w64 (v_t719 + 1), h, rfl, rfl⟩
        ·
          refine cw_block ?_
          refine cw_seq fun K782 hK782 => ?_
          refine cw_region ?_
          refine nx_o (op_move (.tmp 8 rfl)) rfl ?_
          refine nx_o (op_assign (.tmp 0 rfl)) rfl ?_
          refine nx_nil ?_
          refine Says.ex (S' := [(10, I v_t719), (0, SL 2 cSample v_a1), (2, I v_a3), (6, I v_t715), (7, I v_t716), (8, I v_t717), (9, I v_t718), (27, I v_a2), (28, I v_t719)]) (O' := []) (says_pick [0, 3, 4, 5, 6, 7, 8, 9, 10] [] rfl rfl) ?_
          refine ex_kx (hK782 _ _ ?_)
          refine cw_seq fun K783 hK783 => ?_
          refine cw_region ?_
          refine nx_o (op_assign (Can.raw _ _)) rfl ?_
          refine nx_nil ?_
          refine ex_kx (hK783 _ _ ?_)
          refine cw_join (fun S O => ∃ (v_t804 : List Int), grow_best_j3 N v_a1 v_t719 v_a3 (grow_best_l1 N v_a2 v_a1 v_a3 n_1) v_t715 v_t716 v_t717 v_t718 v_t804 = some r ∧ S = [(0, SL 2 cSample v_a1), (2, I v_a3), (6, I v_t715), (7, I v_t716), (8, I v_t717), (9, I v_t718), (10, I v_t719), (11, .ref 268), (27, I v_a2), (28, I v_t719)] ∧ O = [(268, .row 3 1 cI v_t804)]) ?_ (fun K799 hK799 => ?_)
          · rintro S O ⟨v_t804, h, rfl, rfl⟩
            unfold grow_best_j3 at h
            refine cw_seq fun K800 hK800 => ?_
            refine cw_region ?_
            refine nx_o (op_move (.tmp 7 rfl)) rfl ?_
            obtain ⟨v_r805, hv_r805, h⟩ := bnd h
            refine nx_op (op_call (show Fn Go.Proofs.Tryd.prog 150 [.ref 268] [(268, .row 3 1 cI v_t804)] (.tup []) [(268, .row 3 1 cI v_r805)] from (Fn.swap (f150_fn N v_t804 _ hv_r805) 1 268)) c150 (.cons (.tmp 0 rfl) .nil) [0] rfl rfl rfl rfl rfl rfl) rfl ?_
            show Nx _ _ _ _ _ [(47, .tup []), (46, .ref 268), (0, SL 2 cSample v_a1), (2, I v_a3), (6, I v_t715), (7, I v_t716), (8, I v_t717), (9, I v_t718), (10, I v_t719), (11, .ref 268), (27, I v_a2), (28, I v_t719)] [(268, .row 3 1 cI v_r805)]
            refine nx_nil ?_
            refine Says.ex (S' := [(0, SL 2 cSample v_a1), (2, I v_a3), (6, I v_t715), (7, I v_t716), (8, I v_t717), (9, I v_t718), (10, I v_t719), (11, .ref 268), (27, I v_a2), (28, I v_t719)]) (O' := [(268, .row 3 1 cI v_r805)]) (says_pick [2, 3, 4, 5, 6, 7, 8, 9, 10, 11] [0] rfl rfl) ?_
            refine ex_kx (hK800 _ _ ?_)
            refine cw_seq fun K801 hK801 => ?_
            refine cw_region ?_
            refine nx_o (op_move (.tmp 7 rfl)) rfl ?_
            refine Says.nx (says_less 11 8 rfl (.hdr 0 rfl) rfl) ?_
            show Nx _ _ _ _ _ [(48, .ref 268), (0, SL 2 cSample v_a1), (2, I v_a3), (6, I v_t715), (7, I v_t716), (8, I v_t717), (9, I v_t718), (10, I v_t719), (11, .hdr v_r805.length), (27, I v_a2), (28, I v_t719)] [(268, .row 3 1 cI v_r805)]
            obtain ⟨v_r806, hv_r806, h⟩ := bnd h
            refine nx_k [1, 2, 3, 4, 5, 6, 7, 8, 9, 10] (op_call (show Fn Go.Proofs.Tryd.prog 151 [.ref 268] [(268, .row 3 1 cI v_r805)] (.ref 273) [(273, .row 3 1 cI v_r806)] from (Fn.swap (Fn.swap (f151_fn N v_r805 _ hv_r806) 11 273) 1 268)) c151 (.cons (.tmp 0 rfl) .nil) [0] rfl rfl rfl rfl rfl rfl) rfl rfl ?_
            show Nx _ _ _ _ _ [(49, .ref 273), (0, SL 2 cSample v_a1), (2, I v_a3), (6, I v_t715), (7, I v_t716), (8, I v_t717), (9, I v_t718), (10, I v_t719), (11, .hdr v_r805.length), (27, I v_a2), (28, I v_t719)] [(273, .row 3 1 cI v_r806)]
            refine nx_o (op_move (.tmp 8 rfl)) rfl ?_
            refine nx_o (op_lenH (.tmp 0 rfl) u22) rfl ?_
            refine nx_o (op_min (Can.int _ _ _) (.tmp 0 rfl)) rfl ?_
            refine Says.nx (says_freezeRow (k := 273) 0 rfl rfl (fun _ => rfl) rfl rfl) ?_
            show Nx _ _ _ _ _ [(52, I (min 1 (v_r805.length : Int))), (51, I (v_r805.length : Int)), (50, .hdr v_r805.length), (49, SL 1 cI v_r806), (0, SL 2 cSample v_a1), (2, I v_a3), (6, I v_t715), (7, I v_t716), (8, I v_t717), (9, I v_t718), (10, I v_t719), (11, .hdr v_r805.length), (27, I v_a2), (28, I v_t719)] []
            obtain ⟨v_t807, hv_t807, h⟩ := bnd h
            refine nx_o (op_sliceLo hv_t807 (.tmp 3 rfl) (.tmp 0 rfl) u22 s3) rfl ?_
            refine nx_o (op_len (.tmp 0 rfl) u22) rfl ?_
            refine nx_o (op_move (Can.int _ _ _)) rfl ?_
            refine nx_nil ?_
            refine Says.ex (S' := [(55, I 0), (54, I (v_t807.length : Int)), (53, SL 1 cI v_t807), (0, SL 2 cSample v_a1), (2, I v_a3), (6, I v_t715), (7, I v_t716), (8, I v_t717), (9, I v_t718), (10, I v_t719), (27, I v_a2), (28, I v_t719)]) (O' := []) (says_pick [0, 1, 2, 7, 8, 9, 10, 11, 12, 13, 15, 16] [] rfl rfl) ?_
            refine ex_kx (hK801 _ _ ?_)
            refine cw_block ?_
            refine Says.cw (S' := [(0, SL 2 cSample v_a1), (2, I v_a3), (6, I v_t715), (7, I v_t716), (8, I v_t717), (9, I v_t718), (10, I v_t719), (27, I v_a2), (28, I v_t719), (53, SL 1 cI v_t807), (54, I (v_t807.length : Int)), (55, I 0)]) (O' := []) (says_pick [3, 4, 5, 6, 7, 8, 9, 10, 11, 2, 1, 0] [] rfl rfl) ?_
            refine cw_loopJ (fun n S O => ∃ (v_t831 : Int) (v_t832 : Int) (v_t833 : Int) (v_t834 : Int) (v_t835 : Int), grow_best_l2 N v_t807 v_a1 v_t719 v_a3 (grow_best_l1 N v_a2 v_a1 v_a3 n_1) n v_t831 v_t832 v_t833 v_t834 v_t835 = some r ∧ S = [(0, SL 2 cSample v_a1), (2, I v_a3), (6, I v_t831), (7, I v_t832), (8, I v_t833), (9, I v_t834), (10, I v_t719), (27, I v_a2), (28, I v_t719), (53, SL 1 cI v_t807), (54, I (v_t807.length : Int)), (55, I v_t835)] ∧ O = []) ?_ ?_ N ⟨v_t715, v_t716, v_t717, v_t718, 0, h, rfl, rfl⟩
            · rintro S O ⟨v_t831, v_t832, v_t833, v_t834, v_t835, h, -, -⟩
              simp [grow_best_l2] at h
            · rintro n_2 S O ⟨v_t831, v_t832, v_t833, v_t834, v_t835, h, rfl, rfl⟩ K822 hK822
              rw [grow_best_l2] at h
              refine cw_seq fun K823 hK823 => ?_
              refine cw_region ?_
              refine nx_o (op_lss (.tmp 11 rfl) (.tmp 10 rfl)) rfl ?_
              refine nx_nil ?_
              refine ex_kx (hK823 _ _ ?_)
              refine cw_seq fun K824 hK824 => ?_
              refine cw_cond (b := (decide (v_t835 < (v_t807.length : Int)))) (.tmp 0 rfl) (fun hc => ?_) (fun hc => ?_)
              · have h := ite_t hc h
                refine cw_skip ?_
                refine ex_kx (hK824 _ _ ?_)
                refine cw_seq fun K825 hK825 => ?_
                refine cw_block ?_
                refine cw_seq fun K826 hK826 => ?_
                refine cw_region ?_
                obtain ⟨v_y836, hv_y836, h⟩ := bnd h
                refine nx_o (op_indexX hv_y836 (.tmp 10 rfl) (.tmp 12 rfl) u22 s3) rfl ?_
                refine nx_o (op_load1 (.tmp 0 rfl) a3) rfl ?_
                refine nx_o (op_assign (.tmp 0 rfl)) rfl ?_
                refine nx_nil ?_
                refine Says.ex (S' := [(15, I v_y836), (0, SL 2 cSample v_a1), (2, I v_a3), (6, I v_t831), (7, I v_t832), (8, I v_t833), (9, I v_t834), (10, I v_t719), (27, I v_a2), (28, I v_t719), (53, SL 1 cI v_t807), (54, I (v_t807.length : Int)), (55, I v_t835)]) (O' := []) (says_pick [0, 4, 5, 6, 7, 8, 9, 10, 11, 12, 13, 14, 15] [] rfl rfl) ?_
                refine ex_kx (hK826 _ _ ?_)
                refine cw_seq fun K827 hK827 => ?_
                refine cw_region ?_
                refine nx_o (op_move (.tmp 1 rfl)) rfl ?_
                refine nx_o (op_move (.tmp 8 rfl)) rfl ?_
                refine nx_o (op_move (.tmp 2 rfl)) rfl ?_
                obtain ⟨v_r837, hv_r837, h⟩ := bnd h
                refine nx_o (op_call0 (show Fn Go.Proofs.Tryd.prog 152 [SL 2 cSample v_a1, I v_t719, I v_y836] [] (.tup [SL 2 cSample v_r837.1, SL 2 cSample v_r837.2]) [] from (f152_fn N v_a1 v_t719 v_y836 _ hv_r837)) c152 (.cons (.tmp 2 rfl) (.cons (.tmp 1 rfl) (.cons (.tmp 0 rfl) .nil)))) rfl ?_
                refine nx_o (op_move (.tmp 0 rfl)) rfl ?_
                refine nx_o (op_extract (.tmp 0 rfl) rfl) rfl ?_
                refine nx_o (op_extract (.tmp 1 rfl) rfl) rfl ?_
                refine nx_o (op_assign (.tmp 1 rfl)) rfl ?_
                refine nx_o (op_assign (.tmp 1 rfl)) rfl ?_
                refine nx_nil ?_
                refine Says.ex (S' := [(17, SL 2 cSample v_r837.2), (16, SL 2 cSample v_r837.1), (15, I v_y836), (0, SL 2 cSample v_a1), (2, I v_a3), (6, I v_t831), (7, I v_t832), (8, I v_t833), (9, I v_t834), (10, I v_t719), (27, I v_a2), (28, I v_t719), (53, SL 1 cI v_t807), (54, I (v_t807.length : Int)), (55, I v_t835)]) (O' := []) (says_pick [0, 1, 9, 10, 11, 12, 13, 14, 15, 16, 17, 18, 19, 20, 21] [] rfl rfl) ?_
                refine ex_kx (hK827 _ _ ?_)
                refine cw_seq fun K828 hK828 => ?_
                refine cw_seq fun K829 hK829 => ?_
                refine cw_region ?_
                refine nx_o (op_move (.tmp 1 rfl)) rfl ?_
                refine nx_o (op_len (.tmp 0 rfl) u50) rfl ?_
                refine nx_o (op_move (.tmp 6 rfl)) rfl ?_
                refine nx_o (op_lss (.tmp 1 rfl) (.tmp 0 rfl)) rfl ?_
                refine nx_o (op_move (.tmp 0 rfl)) rfl ?_
                refine nx_g (opy_guard (cc := (!(decide ((v_r837.1.length : Int) < v_a3)))) (.plain 0 rfl) rfl rfl (fun hg => (op_move (.tmp 5 rfl)))) rfl ?_
                refine nx_g (opy_guard (cc := (!(decide ((v_r837.1.length : Int) < v_a3)))) (.plain 1 rfl) rfl rfl (fun hg => (op_len (.cd 0 rfl hg) u50))) rfl ?_
                refine nx_g (opy_guard (cc := (!(decide ((v_r837.1.length : Int) < v_a3)))) (.plain 2 rfl) rfl rfl (fun hg => (op_move (.tmp 11 rfl)))) rfl ?_
                refine nx_g (opy_guard (cc := (!(decide ((v_r837.1.length : Int) < v_a3)))) (.plain 3 rfl) rfl rfl (fun hg => (op_lss (.cd 1 rfl hg) (.cd 0 rfl hg)))) rfl ?_
                refine nx_o (op_or (.tmp 4 rfl) (fun hp => (.cd 0 rfl (not_t hp)))) rfl ?_
                refine nx_nil ?_
                refine Says.ex (S' := [(75, B ((decide ((v_r837.1.length : Int) < v_a3)) || (decide ((v_r837.2.length : Int) < v_a3)))), (17, SL 2 cSample v_r837.2), (16, SL 2 cSample v_r837.1), (15, I v_y836), (0, SL 2 cSample v_a1), (2, I v_a3), (6, I v_t831), (7, I v_t832), (8, I v_t833), (9, I v_t834), (10, I v_t719), (27, I v_a2), (28, I v_t719), (53, SL 1 cI v_t807), (54, I (v_t807.length : Int)), (55, I v_t835)]) (O' := []) (says_pick [0, 10, 11, 12, 13, 14, 15, 16, 17, 18, 19, 20, 21, 22, 23, 24] [] rfl rfl) ?_
                refine ex_kx (hK829 _ _ ?_)
                refine cw_cond (b := ((decide ((v_r837.1.length : Int) < v_a3)) || (decide ((v_r837.2.length : Int) < v_a3)))) (.tmp 0 rfl) (fun hc => ?_) (fun hc => ?_)
                · have h := ite_t hc h
                  refine cw_exit ?_
                  refine ex_te ?_
                  refine ex_be ?_
                  refine ex_kx (hK825 _ _ ?_)
                  refine cw_region ?_
                  refine nx_o (op_add (.tmp 15 rfl) (Can.int _ _ _)) rfl ?_
                  refine nx_k [0, 1, 2, 3, 4, 5, 6, 7, 8, 9, 10, 11, 12, 13, 14, 15] (op_move (.tmp 0 rfl)) rfl rfl ?_
                  show Nx _ _ _ _ _ [(55, I (w64 (v_t835 + 1))), (109, I (w64 (v_t835 + 1))), (75, B ((decide ((v_r837.1.length : Int) < v_a3)) || (decide ((v_r837.2.length : Int) < v_a3)))), (17, SL 2 cSample v_r837.2), (16, SL 2 cSample v_r837.1), (15, I v_y836), (0, SL 2 cSample v_a1), (2, I v_a3), (6, I v_t831), (7, I v_t832), (8, I v_t833), (9, I v_t834), (10, I v_t719), (27, I v_a2), (28, I v_t719), (53, SL 1 cI v_t807), (54, I (v_t807.length : Int))] []
                  refine nx_nil ?_
                  refine Says.ex (S' := [(55, I (w64 (v_t835 + 1))), (0, SL 2 cSample v_a1), (2, I v_a3), (6, I v_t831), (7, I v_t832), (8, I v_t833), (9, I v_t834), (10, I v_t719), (27, I v_a2), (28, I v_t719), (53, SL 1 cI v_t807), (54, I (v_t807.length : Int))]) (O' := []) (says_pick [0, 6, 7, 8, 9, 10, 11, 12, 13, 14, 15, 16] [] rfl rfl) ?_
                  refine ex_kx ?_
                  refine Says.kx (S' := [(0, SL 2 cSample v_a1), (2, I v_a3), (6, I v_t831), (7, I v_t832), (8, I v_t833), (9, I v_t834), (10, I v_t719), (27, I v_a2), (28, I v_t719), (53, SL 1 cI v_t807), (54, I (v_t807.length : Int)), (55, I (w64 (v_t835 + 1)))]) (O' := []) (says_pick [1, 2, 3, 4, 5, 6, 7, 8, 9, 10, 11, 0] [] rfl rfl) ?_
                  exact hK822 _ _ ⟨v_t831, v_t832, v_t833, v_t834, w64 (v_t835 + 1), h, rfl, rfl⟩
                · have h := ite_f hc h
                  refine cw_skip ?_
                  refine ex_kx (hK828 _ _ ?_)
                  refine cw_seq fun K830 hK830 => ?_
                  refine cw_region ?_
                  refine nx_o (op_move (.tmp 2 rfl)) rfl ?_
                  obtain ⟨v_r838, hv_r838, h⟩ := bnd h
                  refine nx_o (op_call0 (show Fn Go.Proofs.Tryd.prog 149 [SL 2 cSample v_r837.1] [] (I v_r838) [] from (f149_fn N v_r837.1 _ hv_r838)) c149 (.cons (.tmp 0 rfl) .nil)) rfl ?_
                  refine nx_o (op_move (.tmp 4 rfl)) rfl ?_
                  obtain ⟨v_r839, hv_r839, h⟩ := bnd h
                  refine nx_o (op_call0 (show Fn Go.Proofs.Tryd.prog 149 [SL 2 cSample v_r837.1] [] (I v_r839) [] from (f149_fn N v_r837.1 _ hv_r839)) c149 (.cons (.tmp 0 rfl) .nil)) rfl ?_
                  refine nx_o (op_mul (.tmp 2 rfl) (.tmp 0 rfl)) rfl ?_
                  refine nx_o (op_move (.tmp 6 rfl)) rfl ?_
                  refine nx_o (op_len (.tmp 0 rfl) u50) rfl ?_
                  obtain ⟨v_t840, hv_t840, h⟩ := bnd h
                  refine nx_o (OpX.named hv_t840 (op_mul (.tmp 2 rfl) (.tmp 0 rfl))) rfl ?_
                  refine nx_o (op_move (.tmp 9 rfl)) rfl ?_
                  obtain ⟨v_r841, hv_r841, h⟩ := bnd h
                  refine nx_o (op_call0 (show Fn Go.Proofs.Tryd.prog 149 [SL 2 cSample v_r837.2] [] (I v_r841) [] from (f149_fn N v_r837.2 _ hv_r841)) c149 (.cons (.tmp 0 rfl) .nil)) rfl ?_
                  refine nx_o (op_move (.tmp 11 rfl)) rfl ?_
                  obtain ⟨v_r842, hv_r842, h⟩ := bnd h
                  refine nx_o (op_call0 (show Fn Go.Proofs.Tryd.prog 149 [SL 2 cSample v_r837.2] [] (I v_r842) [] from (f149_fn N v_r837.2 _ hv_r842)) c149 (.cons (.tmp 0 rfl) .nil)) rfl ?_
                  refine nx_o (op_mul (.tmp 2 rfl) (.tmp 0 rfl)) rfl ?_
                  refine nx_o (op_move (.tmp 15 rfl)) rfl ?_
                  refine nx_o (op_len (.tmp 0 rfl) u50) rfl ?_
                  obtain ⟨v_t843, hv_t843, h⟩ := bnd h
                  refine nx_o (OpX.named hv_t843 (op_mul (.tmp 2 rfl) (.tmp 0 rfl))) rfl ?_
                  refine nx_o (op_add (.tmp 8 rfl) (.tmp 0 rfl)) rfl ?_
                  refine nx_o (op_assign (.tmp 0 rfl)) rfl ?_
                  refine nx_nil ?_
                  refine Says.ex (S' := [(18, I (w64 (v_t840 + v_t843))), (17, SL 2 cSample v_r837.2), (16, SL 2 cSample v_r837.1), (15, I v_y836), (0, SL 2 cSample v_a1), (2, I v_a3), (6, I v_t831), (7, I v_t832), (8, I v_t833), (9, I v_t834), (10, I v_t719), (27, I v_a2), (28, I v_t719), (53, SL 1 cI v_t807), (54, I (v_t807.length : Int)), (55, I v_t835)]) (O' := []) (says_pick [0, 19, 20, 21, 22, 23, 24, 25, 26, 27, 28, 29, 30, 31, 32, 33] [] rfl rfl) ?_
                  refine ex_kx (hK830 _ _ ?_)
                  refine cw_seq fun K831 hK831 => ?_
                  refine cw_region ?_
                  refine nx_o (op_move (.tmp 2 rfl)) rfl ?_
                  refine nx_o (op_len (.tmp 0 rfl) u50) rfl ?_
                  refine nx_o (op_move (.tmp 3 rfl)) rfl ?_
                  refine nx_o (op_len (.tmp 0 rfl) u50) rfl ?_
                  obtain ⟨v_t844, hv_t844, h⟩ := bnd h
                  refine nx_o (OpX.named hv_t844 (op_mul (.tmp 2 rfl) (.tmp 0 rfl))) rfl ?_
                  refine nx_o (op_assign (.tmp 0 rfl)) rfl ?_
                  refine nx_nil ?_
                  refine Says.ex (S' := [(19, I v_t844), (18, I (w64 (v_t840 + v_t843))), (15, I v_y836), (0, SL 2 cSample v_a1), (2, I v_a3), (6, I v_t831), (7, I v_t832), (8, I v_t833), (9, I v_t834), (10, I v_t719), (27, I v_a2), (28, I v_t719), (53, SL 1 cI v_t807), (54, I (v_t807.length : Int)), (55, I v_t835)]) (O' := []) (says_pick [0, 6, 9, 10, 11, 12, 13, 14, 15, 16, 17, 18, 19, 20, 21] [] rfl rfl) ?_
                  refine ex_kx (hK831 _ _ ?_)
                  refine cw_seq fun K832 hK832 => ?_
                  refine cw_region ?_
                  refine nx_o (op_move (.tmp 1 rfl)) rfl ?_
                  refine nx_o (op_move (.tmp 9 rfl)) rfl ?_
                  refine nx_o (op_mul (.tmp 1 rfl) (.tmp 0 rfl)) rfl ?_
                  refine nx_o (op_move (.tmp 10 rfl)) rfl ?_
                  refine nx_o (op_move (.tmp 4 rfl)) rfl ?_
                  refine nx_o (op_mul (.tmp 1 rfl) (.tmp 0 rfl)) rfl ?_
                  refine nx_o (op_gtr (.tmp 3 rfl) (.tmp 0 rfl)) rfl ?_
                  refine nx_nil ?_
                  refine Says.ex (S' := [(104, B (decide ((w64 ((w64 (v_t840 + v_t843)) * v_t834)) > (w64 (v_t833 * v_t844))))), (19, I v_t844), (18, I (w64 (v_t840 + v_t843))), (15, I v_y836), (0, SL 2 cSample v_a1), (2, I v_a3), (6, I v_t831), (7, I v_t832), (8, I v_t833), (9, I v_t834), (10, I v_t719), (27, I v_a2), (28, I v_t719), (53, SL 1 cI v_t807), (54, I (v_t807.length : Int)), (55, I v_t835)]) (O' := []) (says_pick [0, 7, 8, 9, 10, 11, 12, 13, 14, 15, 16, 17, 18, 19, 20, 21] [] rfl rfl) ?_
                  refine ex_kx (hK832 _ _ ?_)
                  refine cw_cond (b := (decide ((w64 ((w64 (v_t840 + v_t843)) * v_t834)) > (w64 (v_t833 * v_t844))))) (.tmp 0 rfl) (fun hc => ?_) (fun hc => ?_)
                  · have h := ite_t hc h
                    refine cw_region ?_
                    refine nx_o (op_move (.tmp 10 rfl)) rfl ?_
                    refine nx_o (op_move (.tmp 4 rfl)) rfl ?_
                    refine nx_o (op_move (.tmp 4 rfl)) rfl ?_
                    refine nx_o (op_move (.tmp 4 rfl)) rfl ?_
                    refine nx_k [0, 1, 2, 3, 4, 5, 6, 7, 8, 9, 11, 12, 13, 14, 15, 16, 17, 18, 19] (op_assign (.tmp 3 rfl)) rfl rfl ?_
                    show Nx _ _ _ _ _ [(6, I v_t719), (108, I v_t844), (107, I (w64 (v_t840 + v_t843))), (106, I v_y836), (105, I v_t719), (104, B (decide ((w64 ((w64 (v_t840 + v_t843)) * v_t834)) > (w64 (v_t833 * v_t844))))), (19, I v_t844), (18, I (w64 (v_t840 + v_t843))), (15, I v_y836), (0, SL 2 cSample v_a1), (2, I v_a3), (7, I v_t832), (8, I v_t833), (9, I v_t834), (10, I v_t719), (27, I v_a2), (28, I v_t719), (53, SL 1 cI v_t807), (54, I (v_t807.length : Int)), (55, I v_t835)] []
                    refine nx_k [0, 1, 2, 3, 4, 5, 6, 7, 8, 9, 10, 12, 13, 14, 15, 16, 17, 18, 19] (op_assign (.tmp 3 rfl)) rfl rfl ?_
                    show Nx _ _ _ _ _ [(7, I v_y836), (6, I v_t719), (108, I v_t844), (107, I (w64 (v_t840 + v_t843))), (106, I v_y836), (105, I v_t719), (104, B (decide ((w64 ((w64 (v_t840 + v_t843)) * v_t834)) > (w64 (v_t833 * v_t844))))), (19, I v_t844), (18, I (w64 (v_t840 + v_t843))), (15, I v_y836), (0, SL 2 cSample v_a1), (2, I v_a3), (8, I v_t833), (9, I v_t834), (10, I v_t719), (27, I v_a2), (28, I v_t719), (53, SL 1 cI v_t807), (54, I (v_t807.length : Int)), (55, I v_t835)] []
                    refine nx_k [0, 1, 2, 3, 4, 5, 6, 7, 8, 9, 10, 11, 13, 14, 15, 16, 17, 18, 19] (op_assign (.tmp 3 rfl)) rfl rfl ?_
                    show Nx _ _ _ _ _ [(8, I (w64 (v_t840 + v_t843))), (7, I v_y836), (6, I v_t719), (108, I v_t844), (107, I (w64 (v_t840 + v_t843))), (106, I v_y836), (105, I v_t719), (104, B (decide ((w64 ((w64 (v_t840 + v_t843)) * v_t834)) > (w64 (v_t833 * v_t844))))), (19, I v_t844), (18, I (w64 (v_t840 + v_t843))), (15, I v_y836), (0, SL 2 cSample v_a1), (2, I v_a3), (9, I v_t834), (10, I v_t719), (27, I v_a2), (28, I v_t719), (53, SL 1 cI v_t807), (54, I (v_t807.length : Int)), (55, I v_t835)] []
                    refine nx_k [0, 1, 2, 3, 4, 5, 6, 7, 8, 9, 10, 11, 12, 14, 15, 16, 17, 18, 19] (op_assign (.tmp 3 rfl)) rfl rfl ?_
                    show Nx _ _ _ _ _ [(9, I v_t844), (8, I (w64 (v_t840 + v_t843))), (7, I v_y836), (6, I v_t719), (108, I v_t844), (107, I (w64 (v_t840 + v_t843))), (106, I v_y836), (105, I v_t719), (104, B (decide ((w64 ((w64 (v_t840 + v_t843)) * v_t834)) > (w64 (v_t833 * v_t844))))), (19, I v_t844), (18, I (w64 (v_t840 + v_t843))), (15, I v_y836), (0, SL 2 cSample v_a1), (2, I v_a3), (10, I v_t719), (27, I v_a2), (28, I v_t719), (53, SL 1 cI v_t807), (54, I (v_t807.length : Int)), (55, I v_t835)] []
                    refine nx_nil ?_
                    refine Says.ex (S' := [(9, I v_t844), (8, I (w64 (v_t840 + v_t843))), (7, I v_y836), (6, I v_t719), (0, SL 2 cSample v_a1), (2, I v_a3), (10, I v_t719), (27, I v_a2), (28, I v_t719), (53, SL 1 cI v_t807), (54, I (v_t807.length : Int)), (55, I v_t835)]) (O' := []) (says_pick [0, 1, 2, 3, 12, 13, 14, 15, 16, 17, 18, 19] [] rfl rfl) ?_
                    refine ex_bn ?_
                    refine ex_kx (hK825 _ _ ?_)
                    refine cw_region ?_
                    refine nx_o (op_add (.tmp 11 rfl) (Can.int _ _ _)) rfl ?_
                    refine nx_k [0, 1, 2, 3, 4, 5, 6, 7, 8, 9, 10, 11] (op_move (.tmp 0 rfl)) rfl rfl ?_
                    show Nx _ _ _ _ _ [(55, I (w64 (v_t835 + 1))), (109, I (w64 (v_t835 + 1))), (9, I v_t844), (8, I (w64 (v_t840 + v_t843))), (7, I v_y836), (6, I v_t719), (0, SL 2 cSample v_a1), (2, I v_a3), (10, I v_t719), (27, I v_a2), (28, I v_t719), (53, SL 1 cI v_t807), (54, I (v_t807.length : Int))] []
                    refine nx_nil ?_
                    refine Says.ex (S' := [(55, I (w64 (v_t835 + 1))), (9, I v_t844), (8, I (w64 (v_t840 + v_t843))), (7, I v_y836), (6, I v_t719), (0, SL 2 cSample v_a1), (2, I v_a3), (10, I v_t719), (27, I v_a2), (28, I v_t719), (53, SL 1 cI v_t807), (54, I (v_t807.length : Int))]) (O' := []) (says_pick [0, 2, 3, 4, 5, 6, 7, 8, 9, 10, 11, 12] [] rfl rfl) ?_
                    refine ex_kx ?_
                    refine Says.kx (S' := [(0, SL 2 cSample v_a1), (2, I v_a3), (6, I v_t719), (7, I v_y836), (8, I (w64 (v_t840 + v_t843))), (9, I v_t844), (10, I v_t719), (27, I v_a2), (28, I v_t719), (53, SL 1 cI v_t807), (54, I (v_t807.length : Int)), (55, I (w64 (v_t835 + 1)))]) (O' := []) (says_pick [5, 6, 4, 3, 2, 1, 7, 8, 9, 10, 11, 0] [] rfl rfl) ?_
                    exact hK822 _ _ ⟨v_t719, v_y836, w64 (v_t840 + v_t843), v_t844, w64 (v_t835 + 1), h, rfl, rfl⟩
                  · have h := ite_f hc h
                    refine cw_skip ?_
                    refine ex_bn ?_
                    refine ex_kx (hK825 _ _ ?_)
                    refine cw_region ?_
                    refine nx_o (op_add (.tmp 15 rfl) (Can.int _ _ _)) rfl ?_
                    refine nx_k [0, 1, 2, 3, 4, 5, 6, 7, 8, 9, 10, 11, 12, 13, 14, 15] (op_move (.tmp 0 rfl)) rfl rfl ?_
                    show Nx _ _ _ _ _ [(55, I (w64 (v_t835 + 1))), (109, I (w64 (v_t835 + 1))), (104, B (decide ((w64 ((w64 (v_t840 + v_t843)) * v_t834)) > (w64 (v_t833 * v_t844))))), (19, I v_t844), (18, I (w64 (v_t840 + v_t843))), (15, I v_y836), (0, SL 2 cSample v_a1), (2, I v_a3), (6, I v_t831), (7, I v_t832), (8, I v_t833), (9, I v_t834), (10, I v_t719), (27, I v_a2), (28, I v_t719), (53, SL 1 cI v_t807), (54, I (v_t807.length : Int))] []
                    refine nx_nil ?_
                    refine Says.ex (S' := [(55, I (w64 (v_t835 + 1))), (0, SL 2 cSample v_a1), (2, I v_a3), (6, I v_t831), (7, I v_t832), (8, I v_t833), (9, I v_t834), (10, I v_t719), (27, I v_a2), (28, I v_t719), (53, SL 1 cI v_t807), (54, I (v_t807.length : Int))]) (O' := []) (says_pick [0, 6, 7, 8, 9, 10, 11, 12, 13, 14, 15, 16] [] rfl rfl) ?_
                    refine ex_kx ?_
                    refine Says.kx (S' := [(0, SL 2 cSample v_a1), (2, I v_a3), (6, I v_t831), (7, I v_t832), (8, I v_t833), (9, I v_t834), (10, I v_t719), (27, I v_a2), (28, I v_t719), (53, SL 1 cI v_t807), (54, I (v_t807.length : Int)), (55, I (w64 (v_t835 + 1)))]) (O' := []) (says_pick [1, 2, 3, 4, 5, 6, 7, 8, 9, 10, 11, 0] [] rfl rfl) ?_
                    exact hK822 _ _ ⟨v_t831, v_t832, v_t833, v_t834, w64 (v_t835 + 1), h, rfl, rfl⟩
              · have h := ite_f hc h
                refine cw_exit ?_
                refine ex_te ?_
                refine ex_te ?_
                refine ex_be ?_
                refine ex_bn ?_
                refine ex_kx ?_
                refine Says.kx (S' := [(0, SL 2 cSample v_a1), (2, I v_a3), (6, I v_t831), (7, I v_t832), (8, I v_t833), (9, I v_t834), (27, I v_a2), (28, I v_t719)]) (O' := []) (says_pick [1, 2, 3, 4, 5, 6, 8, 9] [] rfl rfl) ?_
                exact hK781 _ _ ⟨v_t831, v_t832, v_t833, v_t834, h, rfl, rfl⟩
          ·
            refine cw_seq fun K833 hK833 => ?_
            refine cw_region ?_
            refine nx_o (op_move (.tmp 2 rfl)) rfl ?_
            refine nx_o (op_len (.tmp 0 rfl) u50) rfl ?_
            refine nx_o (op_move (Can.int _ _ _)) rfl ?_
            refine nx_nil ?_
            refine ex_kx (hK833 _ _ ?_)
            refine cw_block ?_
            refine Says.cw (says_ownNil 11 276 3 1 cI 3 rfl rfl rfl rfl) ?_
            show Cw _ _ _ _ [(33, I 0), (32, I (v_a1.length : Int)), (31, SL 2 cSample v_a1), (11, .ref 276), (10, I v_t719), (0, SL 2 cSample v_a1), (2, I v_a3), (6, I v_t715), (7, I v_t716), (8, I v_t717), (9, I v_t718), (27, I v_a2), (28, I v_t719)] [(276, .row 3 1 cI [])]
            refine Says.cw (S' := [(0, SL 2 cSample v_a1), (2, I v_a3), (6, I v_t715), (7, I v_t716), (8, I v_t717), (9, I v_t718), (10, I v_t719), (11, .ref 276), (27, I v_a2), (28, I v_t719), (31, SL 2 cSample v_a1), (32, I (v_a1.length : Int)), (33, I 0)]) (O' := [(276, .row 3 1 cI [])]) (says_pick [5, 6, 7, 8, 9, 10, 4, 3, 11, 12, 2, 1, 0] [0] rfl rfl) ?_
            refine cw_loopJ (fun n S O => ∃ (v_t853 : List Int) (v_t854 : Int), grow_best_l3 N v_a1 v_t719 v_a3 (grow_best_l1 N v_a2 v_a1 v_a3 n_1) v_t715 v_t716 v_t717 v_t718 n v_t853 v_t854 = some r ∧ S = [(0, SL 2 cSample v_a1), (2, I v_a3), (6, I v_t715), (7, I v_t716), (8, I v_t717), (9, I v_t718), (10, I v_t719), (11, .ref 276), (27, I v_a2), (28, I v_t719), (31, SL 2 cSample v_a1), (32, I (v_a1.length : Int)), (33, I v_t854)] ∧ O = [(276, .row 3 1 cI v_t853)]) ?_ ?_ N ⟨[], 0, h, rfl, rfl⟩
            · rintro S O ⟨v_t853, v_t854, h, -, -⟩
              simp [grow_best_l3] at h
            · rintro n_3 S O ⟨v_t853, v_t854, h, rfl, rfl⟩ K842 hK842
              rw [grow_best_l3] at h
              refine cw_seq fun K843 hK843 => ?_
              refine cw_region ?_
              refine nx_o (op_lss (.tmp 12 rfl) (.tmp 11 rfl)) rfl ?_
              refine nx_nil ?_
              refine ex_kx (hK843 _ _ ?_)
              refine cw_seq fun K844 hK844 => ?_
              refine cw_cond (b := (decide (v_t854 < (v_a1.length : Int)))) (.tmp 0 rfl) (fun hc => ?_) (fun hc => ?_)
              · have h := ite_t hc h
                refine cw_skip ?_
                refine ex_kx (hK844 _ _ ?_)
                refine cw_seq fun K845 hK845 => ?_
                refine cw_block ?_
                refine cw_seq fun K846 hK846 => ?_
                refine cw_region ?_
                obtain ⟨v_y855, hv_y855, h⟩ := bnd h
                refine nx_o (op_indexX hv_y855 (.tmp 11 rfl) (.tmp 13 rfl) u50 s146) rfl ?_
                refine nx_o (op_loadA (cSample v_y855) (.tmp 0 rfl) a146 s146 rfl) rfl ?_
                refine nx_op (op_alloc 279 (cSample (Sample.mk [] 0)) za146 zSample rfl) rfl ?_
                show Nx _ _ _ _ _ [(13, .ref 279), (36, .agg (cSample v_y855)), (35, .ptr (cSample v_y855)), (34, B (decide (v_t854 < (v_a1.length : Int)))), (0, SL 2 cSample v_a1), (2, I v_a3), (6, I v_t715), (7, I v_t716), (8, I v_t717), (9, I v_t718), (10, I v_t719), (11, .ref 276), (27, I v_a2), (28, I v_t719), (31, SL 2 cSample v_a1), (32, I (v_a1.length : Int)), (33, I v_t854)] [(279, .var 146 [SL 1 cI [], I 0]), (276, .row 3 1 cI v_t853)]
                refine nx_o0 (op_storeVA (its := (cSample v_y855)) (.tmp 0 rfl) 0 rfl (.agg (.tmp 1 rfl)) rfl s146) ?_
                show Nx _ _ _ _ _ [(13, .ref 279), (36, .agg (cSample v_y855)), (35, .ptr (cSample v_y855)), (34, B (decide (v_t854 < (v_a1.length : Int)))), (0, SL 2 cSample v_a1), (2, I v_a3), (6, I v_t715), (7, I v_t716), (8, I v_t717), (9, I v_t718), (10, I v_t719), (11, .ref 276), (27, I v_a2), (28, I v_t719), (31, SL 2 cSample v_a1), (32, I (v_a1.length : Int)), (33, I v_t854)] [(279, .var 146 [SL 1 cI v_y855.row, I v_y855.target]), (276, .row 3 1 cI v_t853)]
                refine nx_nil ?_
                refine Says.ex (S' := [(13, .ref 279), (0, SL 2 cSample v_a1), (2, I v_a3), (6, I v_t715), (7, I v_t716), (8, I v_t717), (9, I v_t718), (10, I v_t719), (11, .ref 276), (27, I v_a2), (28, I v_t719), (31, SL 2 cSample v_a1), (32, I (v_a1.length : Int)), (33, I v_t854)]) (O' := [(279, .var 146 [SL 1 cI v_y855.row, I v_y855.target]), (276, .row 3 1 cI v_t853)]) (says_pick [0, 4, 5, 6, 7, 8, 9, 10, 11, 12, 13, 14, 15, 16] [0, 1] rfl rfl) ?_
                refine ex_kx (hK846 _ _ ?_)
                refine cw_region ?_
                refine nx_o (op_move (.tmp 8 rfl)) rfl ?_
                refine nx_o (op_fieldVar (.tmp 1 rfl) 0 rfl o146_0) rfl ?_
                refine nx_o (op_loadV (.tmp 0 rfl) 0 rfl rfl a22) rfl ?_
                refine nx_o (op_move (.tmp 10 rfl)) rfl ?_
                obtain ⟨v_y856, hv_y856, h⟩ := bnd h
                refine nx_o (op_indexX hv_y856 (.tmp 1 rfl) (.tmp 0 rfl) u22 s3) rfl ?_
                refine nx_o (op_load1 (.tmp 0 rfl) a3) rfl ?_
                refine nx_o (op_buildSlice (cI 0) (n := 1) (c := cI) ([v_y856] : List Int) bl22 zI (by decide) (by decide) (.cons (.c (.tmp 0 rfl)) rfl (Nat.le_of_ble_eq_true rfl) .nil) rfl rfl (fun _ => rfl)) rfl ?_
                obtain ⟨v_t857, hv_t857, h⟩ := bnd h
                refine nx_k [0, 1, 2, 3, 4, 5, 7, 8, 9, 10, 11, 12, 13, 14, 16, 17, 18, 19, 20] (op_appendX hv_t857 280 (.tmp 6 rfl) 1 rfl (.tmp 0 rfl) u22 i3 (by decide) (by decide) (fun _ => rfl) rfl rfl) rfl rfl ?_
                show Nx _ _ _ _ _ [(44, .ref 280), (43, SL 1 cI [v_y856]), (42, I v_y856), (41, .ptr (cI v_y856)), (40, I v_t719), (39, SL 1 cI v_y855.row), (38, .pt 279 0), (13, .ref 279), (0, SL 2 cSample v_a1), (2, I v_a3), (6, I v_t715), (7, I v_t716), (8, I v_t717), (9, I v_t718), (10, I v_t719), (27, I v_a2), (28, I v_t719), (31, SL 2 cSample v_a1), (32, I (v_a1.length : Int)), (33, I v_t854)] [(280, .row 3 1 cI v_t857), (279, .var 146 [SL 1 cI v_y855.row, I v_y855.target])]
                refine nx_o (op_assign (.tmp 0 rfl)) rfl ?_
                refine nx_nil ?_
                refine Says.ex (S' := [(11, .ref 280), (0, SL 2 cSample v_a1), (2, I v_a3), (6, I v_t715), (7, I v_t716), (8, I v_t717), (9, I v_t718), (10, I v_t719), (27, I v_a2), (28, I v_t719), (31, SL 2 cSample v_a1), (32, I (v_a1.length : Int)), (33, I v_t854)]) (O' := [(280, .row 3 1 cI v_t857)]) (says_pick [0, 9, 10, 11, 12, 13, 14, 15, 16, 17, 18, 19, 20] [0] rfl rfl) ?_
                refine ex_bn ?_
                refine ex_kx (hK845 _ _ ?_)
                refine cw_region ?_
                refine nx_o (op_add (.tmp 12 rfl) (Can.int _ _ _)) rfl ?_
                refine nx_k [0, 1, 2, 3, 4, 5, 6, 7, 8, 9, 10, 11, 12] (op_move (.tmp 0 rfl)) rfl rfl ?_
                show Nx _ _ _ _ _ [(33, I (w64 (v_t854 + 1))), (45, I (w64 (v_t854 + 1))), (11, .ref 280), (0, SL 2 cSample v_a1), (2, I v_a3), (6, I v_t715), (7, I v_t716), (8, I v_t717), (9, I v_t718), (10, I v_t719), (27, I v_a2), (28, I v_t719), (31, SL 2 cSample v_a1), (32, I (v_a1.length : Int))] [(280, .row 3 1 cI v_t857)]
                refine nx_nil ?_
                refine Says.ex (S' := [(33, I (w64 (v_t854 + 1))), (11, .ref 280), (0, SL 2 cSample v_a1), (2, I v_a3), (6, I v_t715), (7, I v_t716), (8, I v_t717), (9, I v_t718), (10, I v_t719), (27, I v_a2), (28, I v_t719), (31, SL 2 cSample v_a1), (32, I (v_a1.length : Int))]) (O' := [(280, .row 3 1 cI v_t857)]) (says_pick [0, 2, 3, 4, 5, 6, 7, 8, 9, 10, 11, 12, 13] [0] rfl rfl) ?_
                refine ex_kx ?_
                refine Says.kx (S' := [(0, SL 2 cSample v_a1), (2, I v_a3), (6, I v_t715), (7, I v_t716), (8, I v_t717), (9, I v_t718), (10, I v_t719), (11, .ref 280), (27, I v_a2), (28, I v_t719), (31, SL 2 cSample v_a1), (32, I (v_a1.length : Int)), (33, I (w64 (v_t854 + 1)))]) (O' := [(280, .row 3 1 cI v_t857)]) (says_pick [2, 3, 4, 5, 6, 7, 8, 1, 9, 10, 11, 12, 0] [0] rfl rfl) ?_
                refine Says.kx (says_swap 280 276 rfl rfl rfl rfl) ?_
                exact hK842 _ _ ⟨v_t857, w64 (v_t854 + 1), h, rfl, rfl⟩
              · have h := ite_f hc h
                refine cw_exit ?_
                refine ex_te ?_
                refine ex_te ?_
                refine ex_be ?_
                refine ex_kx ?_
                refine Says.kx (S' := [(0, SL 2 cSample v_a1), (2, I v_a3), (6, I v_t715), (7, I v_t716), (8, I v_t717), (9, I v_t718), (10, I v_t719), (11, .ref 276), (27, I v_a2), (28, I v_t719)]) (O' := [(276, .row 3 1 cI v_t853)]) (says_pick [1, 2, 3, 4, 5, 6, 7, 8, 9, 10] [0] rfl rfl) ?_
                refine Says.kx (says_swap 276 268 rfl rfl rfl rfl) ?_
                exact hK799 _ _ ⟨v_t853, h, rfl, rfl⟩
      · have h := ite_f hc h
        refine cw_exit ?_
        refine ex_te ?_
        refine ex_te ?_
        refine ex_be ?_
        refine ex_kx ?_
        refine Says.kx (S' := [(6, I v_t715), (7, I v_t716)]) (O' := []) (says_pick [3, 4] [] rfl rfl) ?_
        exact hK427 _ _ ⟨v_t715, v_t716, h, rfl, rfl⟩

theorem f44_fn (N : Nat) (v_l1 : List Sample) (v_features2 : Int) (v_least3 : Int) (r : Int × Int × (Option Int)) (h : grow_Split N v_l1 v_features2 v_least3 = some r) : Fn Go.Proofs.Tryd.prog 44 [SL 2 cSample v_l1, I v_features2, I v_least3] [] (.tup [I r.1, I r.2.1, Er TE r.2.2]) [] := by
  unfold grow_Split at h
  refine fn_intro [] fun44 rfl rfl (Nat.le_of_ble_eq_true rfl) rfl rfl (fun w G V => ?_)
  show Cw _ _ _ _ [(0, SL 2 cSample v_l1), (1, I v_features2), (2, I v_least3)] []
  refine cw_seq fun K1 hK1 => ?_
  refine cw_region ?_
  refine nx_o (op_assign (Can.int _ _ _)) rfl ?_
  refine nx_o (op_assign (Can.int _ _ _)) rfl ?_
  refine nx_o (op_assign (Can.nilE _ TE)) rfl ?_
  refine nx_nil ?_
  refine Says.ex (S' := [(0, SL 2 cSample v_l1), (1, I v_features2), (2, I v_least3)]) (O' := []) (says_pick [3, 4, 5] [] rfl rfl) ?_
  refine ex_kx (hK1 _ _ ?_)
  refine cw_seq fun K2 hK2 => ?_
  refine cw_seq fun K3 hK3 => ?_
  refine cw_region ?_
  refine nx_o (op_move (.tmp 0 rfl)) rfl ?_
  refine nx_o (op_move (.tmp 2 rfl)) rfl ?_
  obtain ⟨v_r4, hv_r4, h⟩ := bnd h
  refine nx_o (op_call0 (show Fn Go.Proofs.Tryd.prog 42 [SL 2 cSample v_l1, I v_features2] [] (.tup [I v_r4.1, Er TE v_r4.2]) [] from (f42_fn N v_l1 v_features2 _ hv_r4)) c42 (.cons (.tmp 1 rfl) (.cons (.tmp 0 rfl) .nil))) rfl ?_
  refine nx_o (op_move (.tmp 0 rfl)) rfl ?_
  refine nx_o (op_extract (.tmp 0 rfl) rfl) rfl ?_
  refine nx_o (op_extract (.tmp 1 rfl) rfl) rfl ?_
  refine nx_o (op_assign (.tmp 1 rfl)) rfl ?_
  refine nx_o (op_assign (.tmp 1 rfl)) rfl ?_
  refine nx_nil ?_
  refine Says.ex (S' := [(10, Er TE v_r4.2), (0, SL 2 cSample v_l1), (1, I v_features2), (2, I v_least3)]) (O' := []) (says_pick [0, 8, 9, 10] [] rfl rfl) ?_
  refine ex_kx (hK3 _ _ ?_)
  refine cw_seq fun K4 hK4 => ?_
  refine cw_region ?_
  refine nx_o (op_move (.tmp 0 rfl)) rfl ?_
  refine nx_o (op_neqNil (.tmp 0 rfl) u32) rfl ?_
  refine nx_nil ?_
  refine Says.ex (S' := [(18, B v_r4.2.isSome), (10, Er TE v_r4.2), (0, SL 2 cSample v_l1), (1, I v_features2), (2, I v_least3)]) (O' := []) (says_pick [0, 2, 3, 4, 5] [] rfl rfl) ?_
  refine ex_kx (hK4 _ _ ?_)
  refine cw_cond (b := v_r4.2.isSome) (.tmp 0 rfl) (fun hc => ?_) (fun hc => ?_)
  · have h := ite_t hc h
    refine cw_seq fun K5 hK5 => ?_
    refine cw_region ?_
    refine nx_o (op_move (.tmp 1 rfl)) rfl ?_
    refine nx_o (op_assign (Can.int _ _ _)) rfl ?_
    refine nx_o (op_assign (Can.int _ _ _)) rfl ?_
    refine nx_o (op_assign (.tmp 2 rfl)) rfl ?_
    refine nx_nil ?_
    refine Says.ex (S' := [(8, Er TE v_r4.2), (7, I 0), (6, I 0)]) (O' := []) (says_pick [0, 1, 2] [] rfl rfl) ?_
    refine ex_kx (hK5 _ _ ?_)
    refine cw_ret ?_
    refine ex_tr ?_
    cases h
    refine Says.ex (S' := [(6, I 0), (7, I 0), (8, Er TE v_r4.2)]) (O' := []) (says_pick [2, 1, 0] [] rfl rfl) ?_
    exact ex_done (.inl rfl) rfl (fun a w G V hs _ hS => resM rfl (.tmp (.tmp 0 rfl) (.tmp (.tmp 1 rfl) (.tmp (.tmp 2 rfl) .nil))) a w G V hs hS)
  · have h := ite_f hc h
    refine cw_skip ?_
    refine ex_kx (hK2 _ _ ?_)
    refine cw_seq fun K6 hK6 => ?_
    refine cw_seq fun K7 hK7 => ?_
    refine cw_region ?_
    refine nx_o (op_move (.tmp 4 rfl)) rfl ?_
    obtain ⟨v_r5, hv_r5, h⟩ := bnd h
    refine nx_o (op_call0 (show Fn Go.Proofs.Tryd.prog 100 [I v_least3] [] (B v_r5) [] from (f100_fn N v_least3 _ hv_r5)) c100 (.cons (.tmp 0 rfl) .nil)) rfl ?_
    refine nx_o (op_not (.tmp 0 rfl)) rfl ?_
    refine nx_nil ?_
    refine Says.ex (S' := [(22, B (!v_r5)), (0, SL 2 cSample v_l1), (1, I v_features2), (2, I v_least3)]) (O' := []) (says_pick [0, 5, 6, 7] [] rfl rfl) ?_
    refine ex_kx (hK7 _ _ ?_)
    refine cw_cond (b := (!v_r5)) (.tmp 0 rfl) (fun hc => ?_) (fun hc => ?_)
    · have h := ite_t hc h
      refine cw_seq fun K8 hK8 => ?_
      refine cw_region ?_
      refine nx_o (op_mkErr (Can.int _ _ _) u123 (fun _ h => by cases h)) rfl ?_
      refine nx_o (op_assign (Can.int _ _ _)) rfl ?_
      refine nx_o (op_assign (Can.int _ _ _)) rfl ?_
      refine nx_o (op_assign (.tmp 2 rfl)) rfl ?_
      refine nx_nil ?_
      refine Says.ex (S' := [(8, Er TE (some 1)), (7, I 0), (6, I 0)]) (O' := []) (says_pick [0, 1, 2] [] rfl rfl) ?_
      refine ex_kx (hK8 _ _ ?_)
      refine cw_ret ?_
      refine ex_tr ?_
      cases h
      refine Says.ex (S' := [(6, I 0), (7, I 0), (8, Er TE (some 1))]) (O' := []) (says_pick [2, 1, 0] [] rfl rfl) ?_
      exact ex_done (.inl rfl) rfl (fun a w G V hs _ hS => resM rfl (.tmp (.tmp 0 rfl) (.tmp (.tmp 1 rfl) (.tmp (.tmp 2 rfl) .nil))) a w G V hs hS)
    · have h := ite_f hc h
      refine cw_skip ?_
      refine ex_kx (hK6 _ _ ?_)
      refine cw_seq fun K9 hK9 => ?_
      refine cw_seq fun K10 hK10 => ?_
      refine cw_region ?_
      refine nx_o (op_move (.tmp 1 rfl)) rfl ?_
      refine nx_o (op_move (.tmp 3 rfl)) rfl ?_
      refine nx_o (op_move (.tmp 5 rfl)) rfl ?_
      obtain ⟨v_r6, hv_r6, h⟩ := bnd h
      refine nx_o (op_call0 (show Fn Go.Proofs.Tryd.prog 101 [SL 2 cSample v_l1, I v_features2, I v_least3] [] (.tup [I v_r6.1, I v_r6.2]) [] from (f101_fn N v_l1 v_features2 v_least3 _ hv_r6)) c101 (.cons (.tmp 2 rfl) (.cons (.tmp 1 rfl) (.cons (.tmp 0 rfl) .nil)))) rfl ?_
      refine nx_o (op_move (.tmp 0 rfl)) rfl ?_
      refine nx_o (op_extract (.tmp 0 rfl) rfl) rfl ?_
      refine nx_o (op_extract (.tmp 1 rfl) rfl) rfl ?_
      refine nx_o (op_assign (.tmp 1 rfl)) rfl ?_
      refine nx_o (op_assign (.tmp 1 rfl)) rfl ?_
      refine nx_nil ?_
      refine Says.ex (S' := [(7, I v_r6.2), (6, I v_r6.1)]) (O' := []) (says_pick [0, 1] [] rfl rfl) ?_
      refine ex_kx (hK10 _ _ ?_)
      refine cw_seq fun K11 hK11 => ?_
      refine cw_region ?_
      refine nx_o (op_move (.tmp 1 rfl)) rfl ?_
      refine nx_o (op_lss (.tmp 0 rfl) (Can.int _ _ _)) rfl ?_
      refine nx_nil ?_
      refine Says.ex (S' := [(32, B (decide (v_r6.1 < 0))), (7, I v_r6.2), (6, I v_r6.1)]) (O' := []) (says_pick [0, 2, 3] [] rfl rfl) ?_
      refine ex_kx (hK11 _ _ ?_)
      refine cw_cond (b := (decide (v_r6.1 < 0))) (.tmp 0 rfl) (fun hc => ?_) (fun hc => ?_)
      · have h := ite_t hc h
        refine cw_seq fun K12 hK12 => ?_
        refine cw_region ?_
        refine nx_o (op_mkErr (Can.int _ _ _) u123 (fun _ h => by cases h)) rfl ?_
        refine nx_k [0, 1, 2] (op_assign (Can.int _ _ _)) rfl rfl ?_
        show Nx _ _ _ _ _ [(6, I 0), (33, Er TE (some 5)), (32, B (decide (v_r6.1 < 0))), (7, I v_r6.2)] []
        refine nx_k [0, 1, 2] (op_assign (Can.int _ _ _)) rfl rfl ?_
        show Nx _ _ _ _ _ [(7, I 0), (6, I 0), (33, Er TE (some 5)), (32, B (decide (v_r6.1 < 0)))] []
        refine nx_o (op_assign (.tmp 2 rfl)) rfl ?_
        refine nx_nil ?_
        refine Says.ex (S' := [(8, Er TE (some 5)), (7, I 0), (6, I 0)]) (O' := []) (says_pick [0, 1, 2] [] rfl rfl) ?_
        refine ex_kx (hK12 _ _ ?_)
        refine cw_ret ?_
        refine ex_tr ?_
        cases h
        refine Says.ex (S' := [(6, I 0), (7, I 0), (8, Er TE (some 5))]) (O' := []) (says_pick [2, 1, 0] [] rfl rfl) ?_
        exact ex_done (.inl rfl) rfl (fun a w G V hs _ hS => resM rfl (.tmp (.tmp 0 rfl) (.tmp (.tmp 1 rfl) (.tmp (.tmp 2 rfl) .nil))) a w G V hs hS)
      · have h := ite_f hc h
        refine cw_skip ?_
        refine ex_kx (hK9 _ _ ?_)
        refine cw_seq fun K13 hK13 => ?_
        refine cw_region ?_
        refine nx_o (op_move (.tmp 2 rfl)) rfl ?_
        refine nx_o (op_move (.tmp 2 rfl)) rfl ?_
        refine nx_k [0, 1, 2, 3] (op_assign (.tmp 1 rfl)) rfl rfl ?_
        show Nx _ _ _ _ _ [(6, I v_r6.1), (35, I v_r6.2), (34, I v_r6.1), (32, B (decide (v_r6.1 < 0))), (7, I v_r6.2)] []
        refine nx_k [0, 1, 2, 3] (op_assign (.tmp 1 rfl)) rfl rfl ?_
        show Nx _ _ _ _ _ [(7, I v_r6.2), (6, I v_r6.1), (35, I v_r6.2), (34, I v_r6.1), (32, B (decide (v_r6.1 < 0)))] []
        refine nx_o (op_assign (Can.nilE _ TE)) rfl ?_
        refine nx_nil ?_
        refine Says.ex (S' := [(8, Er TE none), (7, I v_r6.2), (6, I v_r6.1)]) (O' := []) (says_pick [0, 1, 2] [] rfl rfl) ?_
        refine ex_kx (hK13 _ _ ?_)
        refine cw_ret ?_
        cases h
        refine Says.ex (S' := [(6, I v_r6.1), (7, I v_r6.2), (8, Er TE none)]) (O' := []) (says_pick [2, 1, 0] [] rfl rfl) ?_
        exact ex_done (.inl rfl) rfl (fun a w G V hs _ hS => resM rfl (.tmp (.tmp 0 rfl) (.tmp (.tmp 1 rfl) (.tmp (.tmp 2 rfl) .nil))) a w G V hs hS)

theorem f102_fn (N : Nat) (v_a1 : Int) (v_b2 : Int) (r : Int) (h : orchref1_Floor N v_a1 v_b2 = some r) : Fn Go.Proofs.Tryd.prog 102 [I v_a1, I v_b2] [] (I r) [] := by
  unfold orchref1_Floor at h
  refine fn_intro [] fun102 rfl rfl (Nat.le_of_ble_eq_true rfl) rfl rfl (fun w G V => ?_)
  show Cw _ _ _ _ [(0, I v_a1), (1, I v_b2)] []
  refine cw_seq fun K1 hK1 => ?_
  refine cw_region ?_
  refine nx_o (op_assign (Can.int _ _ _)) rfl ?_
  refine nx_nil ?_
  refine Says.ex (S' := [(0, I v_a1), (1, I v_b2)]) (O' := []) (says_pick [1, 2] [] rfl rfl) ?_
  refine ex_kx (hK1 _ _ ?_)
  refine cw_seq fun K2 hK2 => ?_
  refine cw_seq fun K3 hK3 => ?_
  refine cw_region ?_
  refine nx_o (op_move (.tmp 0 rfl)) rfl ?_
  refine nx_o (op_lss (.tmp 0 rfl) (Can.int _ _ _)) rfl ?_
  refine nx_nil ?_
  refine Says.ex (S' := [(6, B (decide (v_a1 < 0))), (0, I v_a1), (1, I v_b2)]) (O' := []) (says_pick [0, 2, 3] [] rfl rfl) ?_
  refine ex_kx (hK3 _ _ ?_)
  refine cw_cond (b := (decide (v_a1 < 0))) (.tmp 0 rfl) (fun hc => ?_) (fun hc => ?_)
  · have h := ite_t hc h
    refine cw_seq fun K4 hK4 => ?_
    refine cw_region ?_
    refine nx_o (op_move (.tmp 2 rfl)) rfl ?_
    refine nx_o (op_sub (.tmp 0 rfl) (Can.int _ _ _)) rfl ?_
    refine nx_o (op_move (.tmp 3 rfl)) rfl ?_
    refine nx_o (op_sub (.tmp 1 rfl) (.tmp 0 rfl)) rfl ?_
    refine nx_o (op_move (.tmp 6 rfl)) rfl ?_
    obtain ⟨v_q3, hv_q3, h⟩ := bnd h
    refine nx_o (op_quoX hv_q3 (.tmp 1 rfl) (.tmp 0 rfl)) rfl ?_
    refine nx_o (op_neg (.tmp 0 rfl)) rfl ?_
    refine nx_o (op_assign (.tmp 0 rfl)) rfl ?_
    refine nx_nil ?_
    refine Says.ex (S' := [(4, I (w64 (0 - (w64 (Int.tdiv (w64 ((w64 (v_b2 - 1)) - v_a1)) v_b2)))))]) (O' := []) (says_pick [0] [] rfl rfl) ?_
    refine ex_kx (hK4 _ _ ?_)
    refine cw_ret ?_
    refine ex_tr ?_
    cases h
    exact ex_done (.inl rfl) rfl (fun a w G V hs _ hS => res1 rfl (.tmp 0 rfl) a w G V hS)
  · have h := ite_f hc h
    refine cw_skip ?_
    refine ex_kx (hK2 _ _ ?_)
    refine cw_seq fun K5 hK5 => ?_
    refine cw_region ?_
    refine nx_o (op_move (.tmp 1 rfl)) rfl ?_
    refine nx_o (op_move (.tmp 3 rfl)) rfl ?_
    obtain ⟨v_q4, hv_q4, h⟩ := bnd h
    refine nx_o (op_quoX hv_q4 (.tmp 1 rfl) (.tmp 0 rfl)) rfl ?_
    refine nx_o (op_assign (.tmp 0 rfl)) rfl ?_
    refine nx_nil ?_
    refine Says.ex (S' := [(4, I (w64 (Int.tdiv v_a1 v_b2)))]) (O' := []) (says_pick [0] [] rfl rfl) ?_
    refine ex_kx (hK5 _ _ ?_)
    refine cw_ret ?_
    cases h
    exact ex_done (.inl rfl) rfl (fun a w G V hs _ hS => res1 rfl (.tmp 0 rfl) a w G V hS)

end Go.Dl
