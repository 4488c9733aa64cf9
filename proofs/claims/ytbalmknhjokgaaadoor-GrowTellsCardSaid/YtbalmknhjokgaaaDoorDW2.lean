/- Printed by wip/gen: the calls compute it. -/
import Derived.Test.YtbalmknhjokgaaaDoorDW1
set_option linter.unusedVariables false
set_option maxRecDepth 4000
set_option maxHeartbeats 2000000
namespace Go.Dl
open Go

theorem f87_fn (N : Nat) (v_l1 : List Sample) (v_feature2 : Int) (v_cut3 : Int) (v_below4 : Bool) (r : List Sample) (h : orchref2_part N v_l1 v_feature2 v_cut3 v_below4 = some r) : Fn Go.Proofs.Tryd.prog 87 [SL 2 cSample v_l1, I v_feature2, I v_cut3, B v_below4] [] (SL 2 cSample r) [] := by
  unfold orchref2_part at h
  refine fn_intro [] fun87 rfl rfl (Nat.le_of_ble_eq_true rfl) rfl rfl (fun w G V => ?_)
  show Cw _ _ _ _ [(0, SL 2 cSample v_l1), (1, I v_feature2), (2, I v_cut3), (3, B v_below4)] []
  refine cw_seq fun K1 hK1 => ?_
  refine cw_region ?_
  refine nx_o (op_assign (Can.raw _ _)) rfl ?_
  refine nx_nil ?_
  refine Says.ex (S' := [(0, SL 2 cSample v_l1), (1, I v_feature2), (2, I v_cut3), (3, B v_below4)]) (O' := []) (says_pick [1, 2, 3, 4] [] rfl rfl) ?_
  refine ex_kx (hK1 _ _ ?_)
  refine cw_seq fun K2 hK2 => ?_
  refine cw_region ?_
  refine nx_o (op_assign (Can.raw _ _)) rfl ?_
  refine nx_nil ?_
  refine ex_kx (hK2 _ _ ?_)
  refine cw_join (fun S O => ∃ (v_out21 : List Sample), orchref2_part_j1 N v_out21 = some r ∧ S = [(9, .ref 102)] ∧ O = [(102, .row 146 2 cSample v_out21)]) ?_ (fun K18 hK18 => ?_)
  · rintro S O ⟨v_out21, h, rfl, rfl⟩
    unfold orchref2_part_j1 at h
    refine cw_seq fun K19 hK19 => ?_
    refine cw_region ?_
    refine nx_o (op_move (.tmp 0 rfl)) rfl ?_
    refine nx_o (op_assign (.tmp 0 rfl)) rfl ?_
    refine nx_nil ?_
    refine Says.ex (S' := [(8, .ref 102)]) (O' := [(102, .row 146 2 cSample v_out21)]) (says_pick [0] [0] rfl rfl) ?_
    refine ex_kx (hK19 _ _ ?_)
    refine cw_ret ?_
    refine Says.ex (says_freezeRow (k := 102) 0 rfl rfl (fun _ => rfl) rfl rfl) ?_
    show Ex _ _ _ [(8, SL 2 cSample v_out21)] []
    cases h
    exact ex_done (.inl rfl) rfl (fun a w G V hs _ hS => res1 rfl (.tmp 0 rfl) a w G V hS)
  ·
    refine cw_seq fun K20 hK20 => ?_
    refine cw_region ?_
    refine nx_o (op_assign (Can.int _ _ _)) rfl ?_
    refine nx_nil ?_
    refine ex_kx (hK20 _ _ ?_)
    refine cw_block ?_
    refine Says.cw (says_ownNil 9 106 146 2 cSample 1 rfl rfl rfl rfl) ?_
    show Cw _ _ _ _ [(10, I 0), (9, .ref 106), (0, SL 2 cSample v_l1), (1, I v_feature2), (2, I v_cut3), (3, B v_below4)] [(106, .row 146 2 cSample [])]
    refine Says.cw (S' := [(0, SL 2 cSample v_l1), (1, I v_feature2), (2, I v_cut3), (3, B v_below4), (9, .ref 106), (10, I 0)]) (O' := [(106, .row 146 2 cSample [])]) (says_pick [2, 3, 4, 5, 1, 0] [0] rfl rfl) ?_
    refine cw_loopJ (fun n S O => ∃ (v_out32 : List Sample) (v_i33 : Int), orchref2_part_l1 N v_l1 v_feature2 v_cut3 v_below4 n v_out32 v_i33 = some r ∧ S = [(0, SL 2 cSample v_l1), (1, I v_feature2), (2, I v_cut3), (3, B v_below4), (9, .ref 106), (10, I v_i33)] ∧ O = [(106, .row 146 2 cSample v_out32)]) ?_ ?_ N ⟨[], 0, h, rfl, rfl⟩
    · rintro S O ⟨v_out32, v_i33, h, -, -⟩
      simp [orchref2_part_l1] at h
    · rintro n_1 S O ⟨v_out32, v_i33, h, rfl, rfl⟩ K29 hK29
      rw [orchref2_part_l1] at h
      refine cw_seq fun K30 hK30 => ?_
      refine cw_seq fun K31 hK31 => ?_
      refine cw_region ?_
      refine nx_o (op_move (.tmp 5 rfl)) rfl ?_
      refine nx_o (op_move (.tmp 1 rfl)) rfl ?_
      refine nx_o (op_len (.tmp 0 rfl) u50) rfl ?_
      refine nx_o (op_lss (.tmp 2 rfl) (.tmp 0 rfl)) rfl ?_
      refine nx_nil ?_
      refine Says.ex (S' := [(14, B (decide (v_i33 < (v_l1.length : Int)))), (0, SL 2 cSample v_l1), (1, I v_feature2), (2, I v_cut3), (3, B v_below4), (9, .ref 106), (10, I v_i33)]) (O' := [(106, .row 146 2 cSample v_out32)]) (says_pick [0, 4, 5, 6, 7, 8, 9] [0] rfl rfl) ?_
      refine ex_kx (hK31 _ _ ?_)
      refine cw_cond (b := (decide (v_i33 < (v_l1.length : Int)))) (.tmp 0 rfl) (fun hc => ?_) (fun hc => ?_)
      · have h := ite_t hc h
        refine cw_skip ?_
        refine ex_kx (hK30 _ _ ?_)
        refine cw_seq fun K32 hK32 => ?_
        refine cw_block ?_
        refine cw_seq fun K33 hK33 => ?_
        refine cw_region ?_
        refine nx_o (op_move (.tmp 1 rfl)) rfl ?_
        refine nx_o (op_move (.tmp 7 rfl)) rfl ?_
        obtain ⟨v_y34, hv_y34, h⟩ := bnd h
        refine nx_o (op_indexX hv_y34 (.tmp 1 rfl) (.tmp 0 rfl) u50 s146) rfl ?_
        refine nx_o (op_field (.tmp 0 rfl) o146_0) rfl ?_
        refine nx_o (op_load1 (.tmp 0 rfl) a22) rfl ?_
        refine nx_o (op_move (.tmp 7 rfl)) rfl ?_
        obtain ⟨v_y35, hv_y35, h⟩ := bnd h
        refine nx_o (op_indexX hv_y35 (.tmp 1 rfl) (.tmp 0 rfl) u22 s3) rfl ?_
        refine nx_o (op_load1 (.tmp 0 rfl) a3) rfl ?_
        refine nx_o (op_move (.tmp 11 rfl)) rfl ?_
        refine nx_o (op_lss (.tmp 1 rfl) (.tmp 0 rfl)) rfl ?_
        refine nx_o (op_move (.tmp 14 rfl)) rfl ?_
        refine nx_o (op_eqlB (.tmp 1 rfl) (.tmp 0 rfl) u4) rfl ?_
        refine nx_nil ?_
        refine Says.ex (S' := [(28, B ((decide (v_y35 < v_cut3)) == v_below4)), (0, SL 2 cSample v_l1), (1, I v_feature2), (2, I v_cut3), (3, B v_below4), (9, .ref 106), (10, I v_i33)]) (O' := [(106, .row 146 2 cSample v_out32)]) (says_pick [0, 13, 14, 15, 16, 17, 18] [0] rfl rfl) ?_
        refine ex_kx (hK33 _ _ ?_)
        refine cw_cond (b := ((decide (v_y35 < v_cut3)) == v_below4)) (.tmp 0 rfl) (fun hc => ?_) (fun hc => ?_)
        · have h := ite_t hc h
          refine cw_region ?_
          refine nx_o (op_move (.tmp 5 rfl)) rfl ?_
          refine nx_o (op_move (.tmp 2 rfl)) rfl ?_
          refine nx_o (op_move (.tmp 8 rfl)) rfl ?_
          obtain ⟨v_y36, hv_y36, h⟩ := bnd h
          refine nx_o (op_indexX hv_y36 (.tmp 1 rfl) (.tmp 0 rfl) u50 s146) rfl ?_
          refine nx_o (op_loadA (cSample v_y36) (.tmp 0 rfl) a146 s146 rfl) rfl ?_
          refine nx_o (op_buildSlice (cSample (Sample.mk [] 0)) (n := 2) (c := cSample) ([v_y36] : List Sample) bl50 zSample (by decide) (by decide) (.cons (.agg (.tmp 0 rfl)) rfl (Nat.le_of_ble_eq_true rfl) .nil) rfl rfl (fun _ => rfl)) rfl ?_
          obtain ⟨v_t37, hv_t37, h⟩ := bnd h
          refine nx_k [0, 1, 2, 3, 4, 6, 7, 8, 9, 10, 12] (op_appendX hv_t37 108 (.tmp 5 rfl) 0 rfl (.tmp 0 rfl) u50 i146 (by decide) (by decide) (fun _ => rfl) rfl rfl) rfl rfl ?_
          show Nx _ _ _ _ _ [(35, .ref 108), (34, SL 2 cSample [v_y36]), (33, .agg (cSample v_y36)), (32, .ptr (cSample v_y36)), (31, I v_i33), (30, SL 2 cSample v_l1), (28, B ((decide (v_y35 < v_cut3)) == v_below4)), (0, SL 2 cSample v_l1), (1, I v_feature2), (2, I v_cut3), (3, B v_below4), (10, I v_i33)] [(108, .row 146 2 cSample v_t37)]
          refine nx_o (op_assign (.tmp 0 rfl)) rfl ?_
          refine nx_nil ?_
          refine Says.ex (S' := [(9, .ref 108), (0, SL 2 cSample v_l1), (1, I v_feature2), (2, I v_cut3), (3, B v_below4), (10, I v_i33)]) (O' := [(108, .row 146 2 cSample v_t37)]) (says_pick [0, 8, 9, 10, 11, 12] [0] rfl rfl) ?_
          refine ex_bn ?_
          refine ex_kx (hK32 _ _ ?_)
          refine cw_region ?_
          refine nx_o (op_move (.tmp 5 rfl)) rfl ?_
          refine nx_o (op_add (.tmp 0 rfl) (Can.int _ _ _)) rfl ?_
          refine nx_k [0, 1, 2, 3, 4, 5, 6] (op_assign (.tmp 0 rfl)) rfl rfl ?_
          show Nx _ _ _ _ _ [(10, I (w64 (v_i33 + 1))), (16, I (w64 (v_i33 + 1))), (15, I v_i33), (9, .ref 108), (0, SL 2 cSample v_l1), (1, I v_feature2), (2, I v_cut3), (3, B v_below4)] [(108, .row 146 2 cSample v_t37)]
          refine nx_nil ?_
          refine Says.ex (S' := [(10, I (w64 (v_i33 + 1))), (9, .ref 108), (0, SL 2 cSample v_l1), (1, I v_feature2), (2, I v_cut3), (3, B v_below4)]) (O' := [(108, .row 146 2 cSample v_t37)]) (says_pick [0, 3, 4, 5, 6, 7] [0] rfl rfl) ?_
          refine ex_kx ?_
          refine Says.kx (S' := [(0, SL 2 cSample v_l1), (1, I v_feature2), (2, I v_cut3), (3, B v_below4), (9, .ref 108), (10, I (w64 (v_i33 + 1)))]) (O' := [(108, .row 146 2 cSample v_t37)]) (says_pick [2, 3, 4, 5, 1, 0] [0] rfl rfl) ?_
          refine Says.kx (says_swap 108 106 rfl rfl rfl rfl) ?_
          exact hK29 _ _ ⟨v_t37, w64 (v_i33 + 1), h, rfl, rfl⟩
        · have h := ite_f hc h
          refine cw_skip ?_
          refine ex_bn ?_
          refine ex_kx (hK32 _ _ ?_)
          refine cw_region ?_
          refine nx_o (op_move (.tmp 6 rfl)) rfl ?_
          refine nx_o (op_add (.tmp 0 rfl) (Can.int _ _ _)) rfl ?_
          refine nx_k [0, 1, 2, 3, 4, 5, 6, 7] (op_assign (.tmp 0 rfl)) rfl rfl ?_
          show Nx _ _ _ _ _ [(10, I (w64 (v_i33 + 1))), (16, I (w64 (v_i33 + 1))), (15, I v_i33), (28, B ((decide (v_y35 < v_cut3)) == v_below4)), (0, SL 2 cSample v_l1), (1, I v_feature2), (2, I v_cut3), (3, B v_below4), (9, .ref 106)] [(106, .row 146 2 cSample v_out32)]
          refine nx_nil ?_
          refine Says.ex (S' := [(10, I (w64 (v_i33 + 1))), (0, SL 2 cSample v_l1), (1, I v_feature2), (2, I v_cut3), (3, B v_below4), (9, .ref 106)]) (O' := [(106, .row 146 2 cSample v_out32)]) (says_pick [0, 4, 5, 6, 7, 8] [0] rfl rfl) ?_
          refine ex_kx ?_
          refine Says.kx (S' := [(0, SL 2 cSample v_l1), (1, I v_feature2), (2, I v_cut3), (3, B v_below4), (9, .ref 106), (10, I (w64 (v_i33 + 1)))]) (O' := [(106, .row 146 2 cSample v_out32)]) (says_pick [1, 2, 3, 4, 5, 0] [0] rfl rfl) ?_
          exact hK29 _ _ ⟨v_out32, w64 (v_i33 + 1), h, rfl, rfl⟩
      · have h := ite_f hc h
        refine cw_exit ?_
        refine ex_te ?_
        refine ex_te ?_
        refine ex_be ?_
        refine ex_kx ?_
        refine Says.kx (S' := [(9, .ref 106)]) (O' := [(106, .row 146 2 cSample v_out32)]) (says_pick [5] [0] rfl rfl) ?_
        refine Says.kx (says_swap 106 102 rfl rfl rfl rfl) ?_
        exact hK18 _ _ ⟨v_out32, h, rfl, rfl⟩

theorem f45_fn : ∀ (N : Nat) (v_a1 : List Node) (v_a2 : List Sample) (v_a3 : Int) (v_a4 : Int) (v_a5 : Int) (r : List Node), orchref2_Grow N v_a1 v_a2 v_a3 v_a4 v_a5 = some r → Fn Go.Proofs.Tryd.prog 45 [.ref 1, SL 2 cSample v_a2, I v_a3, I v_a4, I v_a5] [(1, .row 28 6 cNode v_a1)] (.ref 11) [(11, .row 28 6 cNode r)] := by
  intro N
  induction N with
  | zero => intro v_a1 v_a2 v_a3 v_a4 v_a5 r h; simp [orchref2_Grow] at h
  | succ N ihrec =>
    intro v_a1 v_a2 v_a3 v_a4 v_a5 r h
    rw [orchref2_Grow] at h
    refine fn_intro [1] fun45 rfl rfl (Nat.le_of_ble_eq_true rfl) rfl rfl (fun w G V => ?_)
    show Cw _ _ _ _ [(0, .ref 1), (1, SL 2 cSample v_a2), (2, I v_a3), (3, I v_a4), (4, I v_a5)] [(1, .row 28 6 cNode v_a1)]
    refine cw_seq fun K1 hK1 => ?_
    refine cw_region ?_
    refine nx_o (op_assign (Can.raw _ _)) rfl ?_
    refine nx_nil ?_
    refine Says.ex (S' := [(0, .ref 1), (1, SL 2 cSample v_a2), (2, I v_a3), (3, I v_a4), (4, I v_a5)]) (O' := [(1, .row 28 6 cNode v_a1)]) (says_pick [1, 2, 3, 4, 5] [0] rfl rfl) ?_
    refine ex_kx (hK1 _ _ ?_)
    refine cw_seq fun K2 hK2 => ?_
    refine cw_region ?_
    refine nx_o (op_move (.tmp 1 rfl)) rfl ?_
    refine nx_o (op_move (.tmp 3 rfl)) rfl ?_
    refine nx_o (op_move (.tmp 6 rfl)) rfl ?_
    obtain ⟨v_r6, hv_r6, h⟩ := bnd h
    refine nx_o (op_call0 (show Fn Go.Proofs.Tryd.prog 43 [SL 2 cSample v_a2, I v_a3, I v_a5] [] (.tup [I v_r6.1, I v_r6.2.1, B v_r6.2.2]) [] from (f43_fn N v_a2 v_a3 v_a5 _ hv_r6)) c43 (.cons (.tmp 2 rfl) (.cons (.tmp 1 rfl) (.cons (.tmp 0 rfl) .nil)))) rfl ?_
    refine nx_o (op_move (.tmp 0 rfl)) rfl ?_
    refine nx_o (op_extract (.tmp 0 rfl) rfl) rfl ?_
    refine nx_o (op_extract (.tmp 1 rfl) rfl) rfl ?_
    refine nx_o (op_extract (.tmp 2 rfl) rfl) rfl ?_
    refine nx_o (op_assign (.tmp 2 rfl)) rfl ?_
    refine nx_o (op_assign (.tmp 2 rfl)) rfl ?_
    refine nx_o (op_assign (.tmp 2 rfl)) rfl ?_
    refine nx_nil ?_
    refine Says.ex (S' := [(13, B v_r6.2.2), (12, I v_r6.2.1), (11, I v_r6.1), (0, .ref 1), (1, SL 2 cSample v_a2), (2, I v_a3), (3, I v_a4), (4, I v_a5)]) (O' := [(1, .row 28 6 cNode v_a1)]) (says_pick [0, 1, 2, 11, 12, 13, 14, 15] [0] rfl rfl) ?_
    refine ex_kx (hK2 _ _ ?_)
    refine cw_join (fun S O => orchref2_Grow_j1 N v_a2 v_r6 v_a1 (orchref2_Grow N) v_a3 v_a4 v_a5 = some r ∧ S = [(0, .ref 1), (1, SL 2 cSample v_a2), (2, I v_a3), (3, I v_a4), (4, I v_a5), (11, I v_r6.1), (12, I v_r6.2.1)] ∧ O = [(1, .row 28 6 cNode v_a1)]) ?_ (fun K33 hK33 => ?_)
    · rintro S O ⟨h, rfl, rfl⟩
      unfold orchref2_Grow_j1 at h
      refine cw_seq fun K34 hK34 => ?_
      refine cw_region ?_
      refine nx_o (op_move (.tmp 1 rfl)) rfl ?_
      refine nx_o (op_move (.tmp 6 rfl)) rfl ?_
      refine nx_o (op_move (.tmp 8 rfl)) rfl ?_
      obtain ⟨v_r24, hv_r24, h⟩ := bnd h
      refine nx_o (op_call0 (show Fn Go.Proofs.Tryd.prog 87 [SL 2 cSample v_a2, I v_r6.1, I v_r6.2.1, B true] [] (SL 2 cSample v_r24) [] from (f87_fn N v_a2 v_r6.1 v_r6.2.1 true _ hv_r24)) c87 (.cons (.tmp 2 rfl) (.cons (.tmp 1 rfl) (.cons (.tmp 0 rfl) (.cons (Can.bool _ _) .nil))))) rfl ?_
      refine nx_o (op_assign (.tmp 0 rfl)) rfl ?_
      refine nx_nil ?_
      refine Says.ex (S' := [(17, SL 2 cSample v_r24), (0, .ref 1), (1, SL 2 cSample v_a2), (2, I v_a3), (3, I v_a4), (4, I v_a5), (11, I v_r6.1), (12, I v_r6.2.1)]) (O' := [(1, .row 28 6 cNode v_a1)]) (says_pick [0, 5, 6, 7, 8, 9, 10, 11] [0] rfl rfl) ?_
      refine ex_kx (hK34 _ _ ?_)
      refine cw_seq fun K35 hK35 => ?_
      refine cw_region ?_
      refine nx_o (op_move (.tmp 2 rfl)) rfl ?_
      refine nx_o (op_move (.tmp 7 rfl)) rfl ?_
      refine nx_o (op_move (.tmp 9 rfl)) rfl ?_
      obtain ⟨v_r25, hv_r25, h⟩ := bnd h
      refine nx_o (op_call0 (show Fn Go.Proofs.Tryd.prog 87 [SL 2 cSample v_a2, I v_r6.1, I v_r6.2.1, B false] [] (SL 2 cSample v_r25) [] from (f87_fn N v_a2 v_r6.1 v_r6.2.1 false _ hv_r25)) c87 (.cons (.tmp 2 rfl) (.cons (.tmp 1 rfl) (.cons (.tmp 0 rfl) (.cons (Can.bool _ _) .nil))))) rfl ?_
      refine nx_o (op_assign (.tmp 0 rfl)) rfl ?_
      refine nx_nil ?_
      refine Says.ex (S' := [(18, SL 2 cSample v_r25), (17, SL 2 cSample v_r24), (0, .ref 1), (2, I v_a3), (3, I v_a4), (4, I v_a5), (11, I v_r6.1), (12, I v_r6.2.1)]) (O' := [(1, .row 28 6 cNode v_a1)]) (says_pick [0, 5, 6, 8, 9, 10, 11, 12] [0] rfl rfl) ?_
      refine ex_kx (hK35 _ _ ?_)
      refine cw_seq fun K36 hK36 => ?_
      refine cw_region ?_
      refine nx_o (op_move (.tmp 2 rfl)) rfl ?_
      refine nx_o (op_lenR (.tmp 0 rfl) 0 rfl u29) rfl ?_
      refine nx_o (op_assign (.tmp 0 rfl)) rfl ?_
      refine nx_nil ?_
      refine Says.ex (S' := [(19, I (v_a1.length : Int)), (18, SL 2 cSample v_r25), (17, SL 2 cSample v_r24), (0, .ref 1), (2, I v_a3), (3, I v_a4), (4, I v_a5), (11, I v_r6.1), (12, I v_r6.2.1)]) (O' := [(1, .row 28 6 cNode v_a1)]) (says_pick [0, 3, 4, 5, 6, 7, 8, 9, 10] [0] rfl rfl) ?_
      refine ex_kx (hK36 _ _ ?_)
      refine cw_seq fun K37 hK37 => ?_
      refine cw_region ?_
      refine nx_o (op_move (.tmp 3 rfl)) rfl ?_
      refine nx_o (op_move (.tmp 8 rfl)) rfl ?_
      refine nx_o (op_move (.tmp 10 rfl)) rfl ?_
      refine nx_o (op_move (.tmp 3 rfl)) rfl ?_
      refine nx_o (op_add (.tmp 0 rfl) (Can.int _ _ _)) rfl ?_
      refine nx_o (op_move (.tmp 7 rfl)) rfl ?_
      refine nx_o (op_len (.tmp 0 rfl) u50) rfl ?_
      refine nx_o (op_move (.tmp 8 rfl)) rfl ?_
      refine nx_o (op_len (.tmp 0 rfl) u50) rfl ?_
      refine nx_o (op_gtr (.tmp 2 rfl) (.tmp 0 rfl)) rfl ?_
      refine nx_o (op_build (l := (cNode (Node.mk v_r6.1 v_r6.2.1 (w64 ((v_a1.length : Int) + 1)) 0 (decide ((v_r24.length : Int) > (v_r25.length : Int))) 0))) (cNode (Node.mk 0 0 0 0 false 0)) bs28 zNode (.cons (.c (.tmp 8 rfl)) rfl (Nat.le_of_ble_eq_true rfl) (.cons (.c (.tmp 7 rfl)) rfl (Nat.le_of_ble_eq_true rfl) (.cons (.c (.tmp 5 rfl)) rfl (Nat.le_of_ble_eq_true rfl) (.cons (.c (.tmp 0 rfl)) rfl (Nat.le_of_ble_eq_true rfl) .nil)))) rfl) rfl ?_
      refine nx_o (op_buildSlice (cNode (Node.mk 0 0 0 0 false 0)) (n := 6) (c := cNode) ([(Node.mk v_r6.1 v_r6.2.1 (w64 ((v_a1.length : Int) + 1)) 0 (decide ((v_r24.length : Int) > (v_r25.length : Int))) 0)] : List Node) bl29 zNode (by decide) (by decide) (.cons (.agg (.tmp 0 rfl)) rfl (Nat.le_of_ble_eq_true rfl) .nil) rfl rfl (fun _ => rfl)) rfl ?_
      obtain ⟨v_t26, hv_t26, h⟩ := bnd h
      refine nx_k [0, 1, 2, 3, 4, 5, 6, 7, 8, 9, 10, 12, 13, 14, 16, 17, 18, 19, 20] (op_appendX hv_t26 14 (.tmp 11 rfl) 0 rfl (.tmp 0 rfl) u29 i28 (by decide) (by decide) (fun _ => rfl) rfl rfl) rfl rfl ?_
      show Nx _ _ _ _ _ [(78, .ref 14), (77, SL 6 cNode [(Node.mk v_r6.1 v_r6.2.1 (w64 ((v_a1.length : Int) + 1)) 0 (decide ((v_r24.length : Int) > (v_r25.length : Int))) 0)]), (76, .agg (cNode (Node.mk v_r6.1 v_r6.2.1 (w64 ((v_a1.length : Int) + 1)) 0 (decide ((v_r24.length : Int) > (v_r25.length : Int))) 0))), (75, B (decide ((v_r24.length : Int) > (v_r25.length : Int)))), (74, I (v_r25.length : Int)), (73, SL 2 cSample v_r25), (72, I (v_r24.length : Int)), (71, SL 2 cSample v_r24), (70, I (w64 ((v_a1.length : Int) + 1))), (69, I (v_a1.length : Int)), (68, I v_r6.2.1), (67, I v_r6.1), (19, I (v_a1.length : Int)), (18, SL 2 cSample v_r25), (17, SL 2 cSample v_r24), (2, I v_a3), (3, I v_a4), (4, I v_a5), (11, I v_r6.1), (12, I v_r6.2.1)] [(14, .row 28 6 cNode v_t26)]
      refine nx_o (op_assign (.tmp 0 rfl)) rfl ?_
      refine nx_nil ?_
      refine Says.ex (S' := [(0, .ref 14), (19, I (v_a1.length : Int)), (18, SL 2 cSample v_r25), (17, SL 2 cSample v_r24), (2, I v_a3), (3, I v_a4), (4, I v_a5)]) (O' := [(14, .row 28 6 cNode v_t26)]) (says_pick [0, 13, 14, 15, 16, 17, 18] [0] rfl rfl) ?_
      refine ex_kx (hK37 _ _ ?_)
      refine cw_seq fun K38 hK38 => ?_
      refine cw_region ?_
      refine nx_o (op_move (.tmp 0 rfl)) rfl ?_
      refine nx_o (op_move (.tmp 4 rfl)) rfl ?_
      refine nx_o (op_move (.tmp 6 rfl)) rfl ?_
      refine nx_o (op_move (.tmp 8 rfl)) rfl ?_
      refine nx_o (op_sub (.tmp 0 rfl) (Can.int _ _ _)) rfl ?_
      refine nx_o (op_move (.tmp 11 rfl)) rfl ?_
      obtain ⟨v_r27, hv_r27, h⟩ := bnd h
      refine nx_k [0, 1, 2, 3, 4, 7, 8, 9, 10, 11, 12] (op_call (show Fn Go.Proofs.Tryd.prog 45 [.ref 14, SL 2 cSample v_r24, I v_a3, I (w64 (v_a4 - 1)), I v_a5] [(14, .row 28 6 cNode v_t26)] (.ref 15) [(15, .row 28 6 cNode v_r27)] from (Fn.swap (Fn.swap (ihrec v_t26 v_r24 v_a3 (w64 (v_a4 - 1)) v_a5 _ hv_r27) 11 15) 1 14)) c45 (.cons (.tmp 5 rfl) (.cons (.tmp 4 rfl) (.cons (.tmp 3 rfl) (.cons (.tmp 1 rfl) (.cons (.tmp 0 rfl) .nil))))) [0] rfl rfl rfl rfl rfl rfl) rfl rfl ?_
      show Nx _ _ _ _ _ [(85, .ref 15), (84, I v_a5), (83, I (w64 (v_a4 - 1))), (82, I v_a4), (81, I v_a3), (80, SL 2 cSample v_r24), (19, I (v_a1.length : Int)), (18, SL 2 cSample v_r25), (17, SL 2 cSample v_r24), (2, I v_a3), (3, I v_a4), (4, I v_a5)] [(15, .row 28 6 cNode v_r27)]
      refine nx_o (op_assign (.tmp 0 rfl)) rfl ?_
      refine nx_nil ?_
      refine Says.ex (S' := [(0, .ref 15), (19, I (v_a1.length : Int)), (18, SL 2 cSample v_r25), (2, I v_a3), (3, I v_a4), (4, I v_a5)]) (O' := [(15, .row 28 6 cNode v_r27)]) (says_pick [0, 7, 8, 10, 11, 12] [0] rfl rfl) ?_
      refine ex_kx (hK38 _ _ ?_)
      refine cw_seq fun K39 hK39 => ?_
      refine cw_region ?_
      refine nx_o (op_move (.tmp 0 rfl)) rfl ?_
      refine nx_o (op_move (.tmp 2 rfl)) rfl ?_
      refine nx_o (op_move (.tmp 2 rfl)) rfl ?_
      refine nx_o (op_lenR (.tmp 0 rfl) 0 rfl u29) rfl ?_
      obtain ⟨v_y28, hv_y28, h⟩ := bnd h
      refine nx_o (op_indexRX hv_y28 (.tmp 3 rfl) 0 rfl (.tmp 2 rfl) u29 s28) rfl ?_
      refine nx_o (op_fieldPt (.tmp 0 rfl) o28_3) rfl ?_
      refine nx_o0 (op_storeR (n := 6) (c := cNode) (l := v_r27) (.tmp 0 rfl) 0 rfl _ 3 ({ v_y28 with right := (v_r27.length : Int) }) rfl (ix_spec hv_y28).2 (Nat.le_of_ble_eq_true rfl) rfl (.tmp 2 rfl) s3) ?_
      show Nx _ _ _ _ _ [(91, .pt 15 (((v_a1.length : Int).toNat * 6) + 3)), (90, .pt 15 ((v_a1.length : Int).toNat * 6)), (89, I (v_r27.length : Int)), (88, .ref 15), (87, I (v_a1.length : Int)), (86, .ref 15), (0, .ref 15), (19, I (v_a1.length : Int)), (18, SL 2 cSample v_r25), (2, I v_a3), (3, I v_a4), (4, I v_a5)] [(15, .row 28 6 cNode (v_r27.set (v_a1.length : Int).toNat ({ v_y28 with right := (v_r27.length : Int) })))]
      refine nx_nil ?_
      refine Says.ex (S' := [(0, .ref 15), (18, SL 2 cSample v_r25), (2, I v_a3), (3, I v_a4), (4, I v_a5)]) (O' := [(15, .row 28 6 cNode (v_r27.set (v_a1.length : Int).toNat ({ v_y28 with right := (v_r27.length : Int) })))]) (says_pick [6, 8, 9, 10, 11] [0] rfl rfl) ?_
      refine ex_kx (hK39 _ _ ?_)
      refine cw_seq fun K40 hK40 => ?_
      refine cw_region ?_
      refine nx_o (op_move (.tmp 0 rfl)) rfl ?_
      refine nx_o (op_move (.tmp 2 rfl)) rfl ?_
      refine nx_o (op_move (.tmp 4 rfl)) rfl ?_
      refine nx_o (op_move (.tmp 6 rfl)) rfl ?_
      refine nx_o (op_sub (.tmp 0 rfl) (Can.int _ _ _)) rfl ?_
      refine nx_o (op_move (.tmp 9 rfl)) rfl ?_
      obtain ⟨v_r29, hv_r29, h⟩ := bnd h
      refine nx_k [0, 1, 2, 3, 4, 7, 8, 9, 10] (op_call (show Fn Go.Proofs.Tryd.prog 45 [.ref 15, SL 2 cSample v_r25, I v_a3, I (w64 (v_a4 - 1)), I v_a5] [(15, .row 28 6 cNode (v_r27.set (v_a1.length : Int).toNat ({ v_y28 with right := (v_r27.length : Int) })))] (.ref 16) [(16, .row 28 6 cNode v_r29)] from (Fn.swap (Fn.swap (ihrec (v_r27.set (v_a1.length : Int).toNat ({ v_y28 with right := (v_r27.length : Int) })) v_r25 v_a3 (w64 (v_a4 - 1)) v_a5 _ hv_r29) 11 16) 1 15)) c45 (.cons (.tmp 5 rfl) (.cons (.tmp 4 rfl) (.cons (.tmp 3 rfl) (.cons (.tmp 1 rfl) (.cons (.tmp 0 rfl) .nil))))) [0] rfl rfl rfl rfl rfl rfl) rfl rfl ?_
      show Nx _ _ _ _ _ [(98, .ref 16), (97, I v_a5), (96, I (w64 (v_a4 - 1))), (95, I v_a4), (94, I v_a3), (93, SL 2 cSample v_r25), (18, SL 2 cSample v_r25), (2, I v_a3), (3, I v_a4), (4, I v_a5)] [(16, .row 28 6 cNode v_r29)]
      refine nx_o (op_assign (.tmp 0 rfl)) rfl ?_
      refine nx_nil ?_
      refine Says.ex (S' := [(10, .ref 16)]) (O' := [(16, .row 28 6 cNode v_r29)]) (says_pick [0] [0] rfl rfl) ?_
      refine ex_kx (hK40 _ _ ?_)
      refine cw_ret ?_
      refine Says.ex (says_swap 16 11 rfl rfl rfl rfl) ?_
      cases h
      exact ex_done (.inl rfl) rfl (fun a w G V hs _ hS => res1 rfl (.tmp 0 rfl) a w G V hS)
    ·
      refine cw_seq fun K41 hK41 => ?_
      refine cw_region ?_
      refine nx_o (op_move (.tmp 6 rfl)) rfl ?_
      refine nx_o (op_eql (.tmp 0 rfl) (Can.int _ _ _)) rfl ?_
      refine nx_o (op_move (.tmp 0 rfl)) rfl ?_
      refine nx_g (opy_guard (cc := (!(v_a4 == 0))) (.plain 0 rfl) rfl rfl (fun hg => (op_move (.tmp 3 rfl)))) rfl ?_
      refine nx_g (opy_guard (cc := (!(v_a4 == 0))) (.plain 1 rfl) rfl rfl (fun hg => (op_not (.cd 0 rfl hg)))) rfl ?_
      refine nx_o (op_or (.tmp 2 rfl) (fun hp => (.cd 0 rfl (not_t hp)))) rfl ?_
      refine nx_nil ?_
      refine Says.ex (S' := [(33, B ((v_a4 == 0) || (!v_r6.2.2))), (12, I v_r6.2.1), (11, I v_r6.1), (0, .ref 1), (1, SL 2 cSample v_a2), (2, I v_a3), (3, I v_a4), (4, I v_a5)]) (O' := [(1, .row 28 6 cNode v_a1)]) (says_pick [0, 7, 8, 9, 10, 11, 12, 13] [0] rfl rfl) ?_
      refine ex_kx (hK41 _ _ ?_)
      refine cw_cond (b := ((v_a4 == 0) || (!v_r6.2.2))) (.tmp 0 rfl) (fun hc => ?_) (fun hc => ?_)
      · have h := ite_t hc h
        refine cw_seq fun K42 hK42 => ?_
        refine cw_region ?_
        refine nx_o (op_assign (Can.int _ _ _)) rfl ?_
        refine nx_nil ?_
        refine Says.ex (S' := [(14, I 0), (0, .ref 1), (1, SL 2 cSample v_a2)]) (O' := [(1, .row 28 6 cNode v_a1)]) (says_pick [0, 4, 5] [0] rfl rfl) ?_
        refine ex_kx (hK42 _ _ ?_)
        refine cw_join (fun S O => ∃ (v_t37 : Int), orchref2_Grow_j2 N v_a2 v_a1 v_t37 = some r ∧ S = [(0, .ref 1), (1, SL 2 cSample v_a2), (14, I v_t37)] ∧ O = [(1, .row 28 6 cNode v_a1)]) ?_ (fun K55 hK55 => ?_)
        · rintro S O ⟨v_t37, h, rfl, rfl⟩
          unfold orchref2_Grow_j2 at h
          refine cw_seq fun K56 hK56 => ?_
          refine cw_region ?_
          refine nx_o (op_move (.tmp 2 rfl)) rfl ?_
          refine nx_o (op_move (.tmp 2 rfl)) rfl ?_
          refine nx_o (op_len (.tmp 0 rfl) u50) rfl ?_
          obtain ⟨v_r38, hv_r38, h⟩ := bnd h
          refine nx_o (op_call0 (show Fn Go.Proofs.Tryd.prog 102 [I v_t37, I (v_a2.length : Int)] [] (I v_r38) [] from (f102_fn N v_t37 (v_a2.length : Int) _ hv_r38)) c102 (.cons (.tmp 2 rfl) (.cons (.tmp 0 rfl) .nil))) rfl ?_
          refine nx_o (op_assign (.tmp 0 rfl)) rfl ?_
          refine nx_nil ?_
          refine Says.ex (S' := [(16, I v_r38), (0, .ref 1)]) (O' := [(1, .row 28 6 cNode v_a1)]) (says_pick [0, 5] [0] rfl rfl) ?_
          refine ex_kx (hK56 _ _ ?_)
          refine cw_seq fun K57 hK57 => ?_
          refine cw_region ?_
          refine nx_o (op_move (.tmp 1 rfl)) rfl ?_
          refine nx_o (op_move (.tmp 1 rfl)) rfl ?_
          refine nx_o (op_build (l := (cNode (Node.mk (-1) 0 0 0 false v_r38))) (cNode (Node.mk 0 0 0 0 false 0)) bs28 zNode (.cons (.c (Can.int _ _ _)) rfl (Nat.le_of_ble_eq_true rfl) (.cons (.c (.tmp 0 rfl)) rfl (Nat.le_of_ble_eq_true rfl) .nil)) rfl) rfl ?_
          refine nx_o (op_buildSlice (cNode (Node.mk 0 0 0 0 false 0)) (n := 6) (c := cNode) ([(Node.mk (-1) 0 0 0 false v_r38)] : List Node) bl29 zNode (by decide) (by decide) (.cons (.agg (.tmp 0 rfl)) rfl (Nat.le_of_ble_eq_true rfl) .nil) rfl rfl (fun _ => rfl)) rfl ?_
          obtain ⟨v_t39, hv_t39, h⟩ := bnd h
          refine nx_k [0, 1, 2, 4] (op_appendX hv_t39 17 (.tmp 3 rfl) 0 rfl (.tmp 0 rfl) u29 i28 (by decide) (by decide) (fun _ => rfl) rfl rfl) rfl rfl ?_
          show Nx _ _ _ _ _ [(55, .ref 17), (54, SL 6 cNode [(Node.mk (-1) 0 0 0 false v_r38)]), (53, .agg (cNode (Node.mk (-1) 0 0 0 false v_r38))), (52, I v_r38), (16, I v_r38)] [(17, .row 28 6 cNode v_t39)]
          refine nx_o (op_assign (.tmp 0 rfl)) rfl ?_
          refine nx_nil ?_
          refine Says.ex (S' := [(10, .ref 17)]) (O' := [(17, .row 28 6 cNode v_t39)]) (says_pick [0] [0] rfl rfl) ?_
          refine ex_kx (hK57 _ _ ?_)
          refine cw_ret ?_
          refine ex_tr ?_
          refine Says.ex (says_swap 17 11 rfl rfl rfl rfl) ?_
          cases h
          exact ex_done (.inl rfl) rfl (fun a w G V hs _ hS => res1 rfl (.tmp 0 rfl) a w G V hS)
        ·
          refine cw_seq fun K58 hK58 => ?_
          refine cw_region ?_
          refine nx_o (op_assign (Can.int _ _ _)) rfl ?_
          refine nx_nil ?_
          refine ex_kx (hK58 _ _ ?_)
          refine cw_block ?_
          refine Says.cw (S' := [(0, .ref 1), (1, SL 2 cSample v_a2), (14, I 0), (15, I 0)]) (O' := [(1, .row 28 6 cNode v_a1)]) (says_pick [2, 3, 1, 0] [0] rfl rfl) ?_
          refine cw_loopJ (fun n S O => ∃ (v_t44 : Int) (v_t45 : Int), orchref2_Grow_l1 N v_a2 v_a1 n v_t44 v_t45 = some r ∧ S = [(0, .ref 1), (1, SL 2 cSample v_a2), (14, I v_t44), (15, I v_t45)] ∧ O = [(1, .row 28 6 cNode v_a1)]) ?_ ?_ N ⟨0, 0, h, rfl, rfl⟩
          · rintro S O ⟨v_t44, v_t45, h, -, -⟩
            simp [orchref2_Grow_l1] at h
          · rintro n_1 S O ⟨v_t44, v_t45, h, rfl, rfl⟩ K65 hK65
            rw [orchref2_Grow_l1] at h
            refine cw_seq fun K66 hK66 => ?_
            refine cw_seq fun K67 hK67 => ?_
            refine cw_region ?_
            refine nx_o (op_move (.tmp 3 rfl)) rfl ?_
            refine nx_o (op_move (.tmp 2 rfl)) rfl ?_
            refine nx_o (op_len (.tmp 0 rfl) u50) rfl ?_
            refine nx_o (op_lss (.tmp 2 rfl) (.tmp 0 rfl)) rfl ?_
            refine nx_nil ?_
            refine Says.ex (S' := [(37, B (decide (v_t45 < (v_a2.length : Int)))), (0, .ref 1), (1, SL 2 cSample v_a2), (14, I v_t44), (15, I v_t45)]) (O' := [(1, .row 28 6 cNode v_a1)]) (says_pick [0, 4, 5, 6, 7] [0] rfl rfl) ?_
            refine ex_kx (hK67 _ _ ?_)
            refine cw_cond (b := (decide (v_t45 < (v_a2.length : Int)))) (.tmp 0 rfl) (fun hc => ?_) (fun hc => ?_)
            · have h := ite_t hc h
              refine cw_skip ?_
              refine ex_kx (hK66 _ _ ?_)
              refine cw_seq fun K68 hK68 => ?_
              refine cw_block ?_
              refine cw_region ?_
              refine nx_o (op_move (.tmp 3 rfl)) rfl ?_
              refine nx_o (op_move (.tmp 3 rfl)) rfl ?_
              refine nx_o (op_move (.tmp 6 rfl)) rfl ?_
              obtain ⟨v_y46, hv_y46, h⟩ := bnd h
              refine nx_o (op_indexX hv_y46 (.tmp 1 rfl) (.tmp 0 rfl) u50 s146) rfl ?_
              refine nx_o (op_field (.tmp 0 rfl) o146_1) rfl ?_
              refine nx_o (op_load1 (.tmp 0 rfl) a3) rfl ?_
              refine nx_o (op_add (.tmp 5 rfl) (.tmp 0 rfl)) rfl ?_
              refine nx_k [0, 1, 2, 3, 4, 5, 6, 7, 8, 9, 11] (op_assign (.tmp 0 rfl)) rfl rfl ?_
              show Nx _ _ _ _ _ [(14, I (w64 (v_t44 + v_y46.target))), (46, I (w64 (v_t44 + v_y46.target))), (45, I v_y46.target), (44, .ptr ((cSample v_y46).drop 1)), (43, .ptr (cSample v_y46)), (42, I v_t45), (41, SL 2 cSample v_a2), (40, I v_t44), (37, B (decide (v_t45 < (v_a2.length : Int)))), (0, .ref 1), (1, SL 2 cSample v_a2), (15, I v_t45)] [(1, .row 28 6 cNode v_a1)]
              refine nx_nil ?_
              refine Says.ex (S' := [(14, I (w64 (v_t44 + v_y46.target))), (0, .ref 1), (1, SL 2 cSample v_a2), (15, I v_t45)]) (O' := [(1, .row 28 6 cNode v_a1)]) (says_pick [0, 9, 10, 11] [0] rfl rfl) ?_
              refine ex_bn ?_
              refine ex_kx (hK68 _ _ ?_)
              refine cw_region ?_
              refine nx_o (op_move (.tmp 3 rfl)) rfl ?_
              refine nx_o (op_add (.tmp 0 rfl) (Can.int _ _ _)) rfl ?_
              refine nx_k [0, 1, 2, 3, 4] (op_assign (.tmp 0 rfl)) rfl rfl ?_
              show Nx _ _ _ _ _ [(15, I (w64 (v_t45 + 1))), (39, I (w64 (v_t45 + 1))), (38, I v_t45), (14, I (w64 (v_t44 + v_y46.target))), (0, .ref 1), (1, SL 2 cSample v_a2)] [(1, .row 28 6 cNode v_a1)]
              refine nx_nil ?_
              refine Says.ex (S' := [(15, I (w64 (v_t45 + 1))), (14, I (w64 (v_t44 + v_y46.target))), (0, .ref 1), (1, SL 2 cSample v_a2)]) (O' := [(1, .row 28 6 cNode v_a1)]) (says_pick [0, 3, 4, 5] [0] rfl rfl) ?_
              refine ex_kx ?_
              refine Says.kx (S' := [(0, .ref 1), (1, SL 2 cSample v_a2), (14, I (w64 (v_t44 + v_y46.target))), (15, I (w64 (v_t45 + 1)))]) (O' := [(1, .row 28 6 cNode v_a1)]) (says_pick [2, 3, 1, 0] [0] rfl rfl) ?_
              exact hK65 _ _ ⟨w64 (v_t44 + v_y46.target), w64 (v_t45 + 1), h, rfl, rfl⟩
            · have h := ite_f hc h
              refine cw_exit ?_
              refine ex_te ?_
              refine ex_te ?_
              refine ex_be ?_
              refine ex_kx ?_
              refine Says.kx (S' := [(0, .ref 1), (1, SL 2 cSample v_a2), (14, I v_t44)]) (O' := [(1, .row 28 6 cNode v_a1)]) (says_pick [1, 2, 3] [0] rfl rfl) ?_
              exact hK55 _ _ ⟨v_t44, h, rfl, rfl⟩
      · have h := ite_f hc h
        refine cw_skip ?_
        refine ex_kx ?_
        refine Says.kx (S' := [(0, .ref 1), (1, SL 2 cSample v_a2), (2, I v_a3), (3, I v_a4), (4, I v_a5), (11, I v_r6.1), (12, I v_r6.2.1)]) (O' := [(1, .row 28 6 cNode v_a1)]) (says_pick [3, 4, 5, 6, 7, 2, 1] [0] rfl rfl) ?_
        exact hK33 _ _ ⟨h, rfl, rfl⟩

theorem f126_fn (N : Nat) (v_a1 : Int) (v_b2 : Int) (r : Int) (h : fixed_Floor N v_a1 v_b2 = some r) : Fn Go.Proofs.Tryd.prog 126 [I v_a1, I v_b2] [] (I r) [] := by
  unfold fixed_Floor at h
  refine fn_intro [] fun126 rfl rfl (Nat.le_of_ble_eq_true rfl) rfl rfl (fun w G V => ?_)
  show Cw _ _ _ _ [(0, I v_a1), (1, I v_b2)] []
  refine cw_seq fun K1 hK1 => ?_
  refine cw_region ?_
  refine nx_o (op_assign (Can.int _ _ _)) rfl ?_
  refine nx_nil ?_
  refine Says.ex (S' := [(0, I v_a1), (1, I v_b2)]) (O' := []) (says_pick [1, 2] [] rfl rfl) ?_
  refine ex_kx (hK1 _ _ ?_)
  refine cw_seq fun K2 hK2 => ?_
  refine cw_region ?_
  refine nx_o (op_move (.tmp 0 rfl)) rfl ?_
  refine nx_o (op_move (.tmp 2 rfl)) rfl ?_
  obtain ⟨v_q3, hv_q3, h⟩ := bnd h
  refine nx_o (op_quoX hv_q3 (.tmp 1 rfl) (.tmp 0 rfl)) rfl ?_
  refine nx_o (op_assign (.tmp 0 rfl)) rfl ?_
  refine nx_nil ?_
  refine Says.ex (S' := [(5, I (w64 (Int.tdiv v_a1 v_b2))), (0, I v_a1), (1, I v_b2)]) (O' := []) (says_pick [0, 4, 5] [] rfl rfl) ?_
  refine ex_kx (hK2 _ _ ?_)
  refine cw_seq fun K3 hK3 => ?_
  refine cw_seq fun K4 hK4 => ?_
  refine cw_region ?_
  refine nx_o (op_move (.tmp 1 rfl)) rfl ?_
  refine nx_o (op_move (.tmp 3 rfl)) rfl ?_
  obtain ⟨v_q4, hv_q4, h⟩ := bnd h
  refine nx_o (op_remX hv_q4 (.tmp 1 rfl) (.tmp 0 rfl)) rfl ?_
  refine nx_o (op_lss (.tmp 0 rfl) (Can.int _ _ _)) rfl ?_
  refine nx_nil ?_
  refine Says.ex (S' := [(12, B (decide ((Int.tmod v_a1 v_b2) < 0))), (5, I (w64 (Int.tdiv v_a1 v_b2)))]) (O' := []) (says_pick [0, 4] [] rfl rfl) ?_
  refine ex_kx (hK4 _ _ ?_)
  refine cw_cond (b := (decide ((Int.tmod v_a1 v_b2) < 0))) (.tmp 0 rfl) (fun hc => ?_) (fun hc => ?_)
  · have h := ite_t hc h
    refine cw_region ?_
    refine nx_o (op_move (.tmp 1 rfl)) rfl ?_
    refine nx_o (op_sub (.tmp 0 rfl) (Can.int _ _ _)) rfl ?_
    refine nx_k [0, 1, 2] (op_assign (.tmp 0 rfl)) rfl rfl ?_
    show Nx _ _ _ _ _ [(5, I (w64 ((w64 (Int.tdiv v_a1 v_b2)) - 1))), (14, I (w64 ((w64 (Int.tdiv v_a1 v_b2)) - 1))), (13, I (w64 (Int.tdiv v_a1 v_b2))), (12, B (decide ((Int.tmod v_a1 v_b2) < 0)))] []
    refine nx_nil ?_
    refine Says.ex (S' := [(5, I (w64 ((w64 (Int.tdiv v_a1 v_b2)) - 1)))]) (O' := []) (says_pick [0] [] rfl rfl) ?_
    refine ex_kx (hK3 _ _ ?_)
    refine cw_seq fun K5 hK5 => ?_
    refine cw_region ?_
    refine nx_o (op_move (.tmp 0 rfl)) rfl ?_
    refine nx_o (op_assign (.tmp 0 rfl)) rfl ?_
    refine nx_nil ?_
    refine Says.ex (S' := [(4, I (w64 ((w64 (Int.tdiv v_a1 v_b2)) - 1)))]) (O' := []) (says_pick [0] [] rfl rfl) ?_
    refine ex_kx (hK5 _ _ ?_)
    refine cw_ret ?_
    cases h
    exact ex_done (.inl rfl) rfl (fun a w G V hs _ hS => res1 rfl (.tmp 0 rfl) a w G V hS)
  · have h := ite_f hc h
    refine cw_skip ?_
    refine ex_kx (hK3 _ _ ?_)
    refine cw_seq fun K6 hK6 => ?_
    refine cw_region ?_
    refine nx_o (op_move (.tmp 1 rfl)) rfl ?_
    refine nx_o (op_assign (.tmp 0 rfl)) rfl ?_
    refine nx_nil ?_
    refine Says.ex (S' := [(4, I (w64 (Int.tdiv v_a1 v_b2)))]) (O' := []) (says_pick [0] [] rfl rfl) ?_
    refine ex_kx (hK6 _ _ ?_)
    refine cw_ret ?_
    cases h
    exact ex_done (.inl rfl) rfl (fun a w G V hs _ hS => res1 rfl (.tmp 0 rfl) a w G V hS)

theorem f103_fn : ∀ (N : Nat) (v_a1 : List Node) (v_a2 : List Sample) (v_a3 : Int) (v_a4 : Int) (v_a5 : Int) (r : List Node), grow_Grow N v_a1 v_a2 v_a3 v_a4 v_a5 = some r → Fn Go.Proofs.Tryd.prog 103 [.ref 1, SL 2 cSample v_a2, I v_a3, I v_a4, I v_a5] [(1, .row 28 6 cNode v_a1)] (.ref 11) [(11, .row 28 6 cNode r)] := by
  intro N
  induction N with
  | zero => intro v_a1 v_a2 v_a3 v_a4 v_a5 r h; simp [grow_Grow] at h
  | succ N ihrec =>
    intro v_a1 v_a2 v_a3 v_a4 v_a5 r h
    rw [grow_Grow] at h
    refine fn_intro [1] fun103 rfl rfl (Nat.le_of_ble_eq_true rfl) rfl rfl (fun w G V => ?_)
    show Cw _ _ _ _ [(0, .ref 1), (1, SL 2 cSample v_a2), (2, I v_a3), (3, I v_a4), (4, I v_a5)] [(1, .row 28 6 cNode v_a1)]
    refine cw_seq fun K1 hK1 => ?_
    refine cw_region ?_
    refine nx_o (op_assign (Can.raw _ _)) rfl ?_
    refine nx_nil ?_
    refine Says.ex (S' := [(0, .ref 1), (1, SL 2 cSample v_a2), (2, I v_a3), (3, I v_a4), (4, I v_a5)]) (O' := [(1, .row 28 6 cNode v_a1)]) (says_pick [1, 2, 3, 4, 5] [0] rfl rfl) ?_
    refine ex_kx (hK1 _ _ ?_)
    refine cw_seq fun K2 hK2 => ?_
    refine cw_region ?_
    refine nx_o (op_move (.tmp 0 rfl)) rfl ?_
    refine nx_o (op_lenR (.tmp 0 rfl) 0 rfl u29) rfl ?_
    refine nx_o (op_assign (.tmp 0 rfl)) rfl ?_
    refine nx_nil ?_
    refine Says.ex (S' := [(11, I (v_a1.length : Int)), (0, .ref 1), (1, SL 2 cSample v_a2), (2, I v_a3), (3, I v_a4), (4, I v_a5)]) (O' := [(1, .row 28 6 cNode v_a1)]) (says_pick [0, 3, 4, 5, 6, 7] [0] rfl rfl) ?_
    refine ex_kx (hK2 _ _ ?_)
    refine cw_seq fun K3 hK3 => ?_
    refine cw_region ?_
    refine nx_o (op_assign (Can.int _ _ _)) rfl ?_
    refine nx_nil ?_
    refine ex_kx (hK3 _ _ ?_)
    refine cw_seq fun K4 hK4 => ?_
    refine cw_region ?_
    refine nx_o (op_assign (Can.int _ _ _)) rfl ?_
    refine nx_nil ?_
    refine ex_kx (hK4 _ _ ?_)
    refine cw_join (fun S O => ∃ (v_t7 : Int) (v_t8 : Int), grow_Grow_j1 N v_a2 v_a1 (grow_Grow N) v_a3 v_a4 v_a5 v_t7 v_t8 = some r ∧ S = [(0, .ref 1), (1, SL 2 cSample v_a2), (2, I v_a3), (3, I v_a4), (4, I v_a5), (11, I (v_a1.length : Int)), (12, I v_t7), (13, I v_t8)] ∧ O = [(1, .row 28 6 cNode v_a1)]) ?_ (fun K6 hK6 => ?_)
    · rintro S O ⟨v_t7, v_t8, h, rfl, rfl⟩
      unfold grow_Grow_j1 at h
      refine cw_seq fun K7 hK7 => ?_
      refine cw_seq fun K8 hK8 => ?_
      refine cw_region ?_
      refine nx_o (op_move (.tmp 6 rfl)) rfl ?_
      refine nx_o (op_lss (.tmp 0 rfl) (Can.int _ _ _)) rfl ?_
      refine nx_nil ?_
      refine Says.ex (S' := [(28, B (decide (v_t7 < 0))), (0, .ref 1), (1, SL 2 cSample v_a2), (2, I v_a3), (3, I v_a4), (4, I v_a5), (11, I (v_a1.length : Int)), (12, I v_t7), (13, I v_t8)]) (O' := [(1, .row 28 6 cNode v_a1)]) (says_pick [0, 2, 3, 4, 5, 6, 7, 8, 9] [0] rfl rfl) ?_
      refine ex_kx (hK8 _ _ ?_)
      refine cw_cond (b := (decide (v_t7 < 0))) (.tmp 0 rfl) (fun hc => ?_) (fun hc => ?_)
      · have h := ite_t hc h
        refine cw_seq fun K9 hK9 => ?_
        refine cw_region ?_
        refine nx_o (op_move (.tmp 1 rfl)) rfl ?_
        refine nx_o (op_move (.tmp 3 rfl)) rfl ?_
        obtain ⟨v_r9, hv_r9, h⟩ := bnd h
        refine nx_o (op_call0 (show Fn Go.Proofs.Tryd.prog 149 [SL 2 cSample v_a2] [] (I v_r9) [] from (f149_fn N v_a2 _ hv_r9)) c149 (.cons (.tmp 0 rfl) .nil)) rfl ?_
        refine nx_o (op_move (.tmp 5 rfl)) rfl ?_
        refine nx_o (op_len (.tmp 0 rfl) u50) rfl ?_
        obtain ⟨v_r10, hv_r10, h⟩ := bnd h
        refine nx_o (op_call0 (show Fn Go.Proofs.Tryd.prog 126 [I v_r9, I (v_a2.length : Int)] [] (I v_r10) [] from (f126_fn N v_r9 (v_a2.length : Int) _ hv_r10)) c126 (.cons (.tmp 2 rfl) (.cons (.tmp 0 rfl) .nil))) rfl ?_
        refine nx_o (op_build (l := (cNode (Node.mk (-1) 0 0 0 false v_r10))) (cNode (Node.mk 0 0 0 0 false 0)) bs28 zNode (.cons (.c (Can.int _ _ _)) rfl (Nat.le_of_ble_eq_true rfl) (.cons (.c (.tmp 0 rfl)) rfl (Nat.le_of_ble_eq_true rfl) .nil)) rfl) rfl ?_
        refine nx_o (op_buildSlice (cNode (Node.mk 0 0 0 0 false 0)) (n := 6) (c := cNode) ([(Node.mk (-1) 0 0 0 false v_r10)] : List Node) bl29 zNode (by decide) (by decide) (.cons (.agg (.tmp 0 rfl)) rfl (Nat.le_of_ble_eq_true rfl) .nil) rfl rfl (fun _ => rfl)) rfl ?_
        obtain ⟨v_t11, hv_t11, h⟩ := bnd h
        refine nx_k [0, 1, 2, 3, 4, 5, 6, 8, 10, 11, 12, 13, 14, 15, 16] (op_appendX hv_t11 13 (.tmp 7 rfl) 0 rfl (.tmp 0 rfl) u29 i28 (by decide) (by decide) (fun _ => rfl) rfl rfl) rfl rfl ?_
        show Nx _ _ _ _ _ [(37, .ref 13), (36, SL 6 cNode [(Node.mk (-1) 0 0 0 false v_r10)]), (35, .agg (cNode (Node.mk (-1) 0 0 0 false v_r10))), (34, I v_r10), (33, I (v_a2.length : Int)), (32, SL 2 cSample v_a2), (31, I v_r9), (30, SL 2 cSample v_a2), (28, B (decide (v_t7 < 0))), (1, SL 2 cSample v_a2), (2, I v_a3), (3, I v_a4), (4, I v_a5), (11, I (v_a1.length : Int)), (12, I v_t7), (13, I v_t8)] [(13, .row 28 6 cNode v_t11)]
        refine nx_o (op_assign (.tmp 0 rfl)) rfl ?_
        refine nx_nil ?_
        refine Says.ex (S' := [(10, .ref 13)]) (O' := [(13, .row 28 6 cNode v_t11)]) (says_pick [0] [0] rfl rfl) ?_
        refine ex_kx (hK9 _ _ ?_)
        refine cw_ret ?_
        refine ex_tr ?_
        refine Says.ex (says_swap 13 11 rfl rfl rfl rfl) ?_
        cases h
        exact ex_done (.inl rfl) rfl (fun a w G V hs _ hS => res1 rfl (.tmp 0 rfl) a w G V hS)
      · have h := ite_f hc h
        refine cw_skip ?_
        refine ex_kx (hK7 _ _ ?_)
        refine cw_seq fun K10 hK10 => ?_
        refine cw_region ?_
        refine nx_o (op_move (.tmp 2 rfl)) rfl ?_
        refine nx_o (op_move (.tmp 8 rfl)) rfl ?_
        refine nx_o (op_move (.tmp 10 rfl)) rfl ?_
        obtain ⟨v_r12, hv_r12, h⟩ := bnd h
        refine nx_o (op_call0 (show Fn Go.Proofs.Tryd.prog 152 [SL 2 cSample v_a2, I v_t7, I v_t8] [] (.tup [SL 2 cSample v_r12.1, SL 2 cSample v_r12.2]) [] from (f152_fn N v_a2 v_t7 v_t8 _ hv_r12)) c152 (.cons (.tmp 2 rfl) (.cons (.tmp 1 rfl) (.cons (.tmp 0 rfl) .nil)))) rfl ?_
        refine nx_o (op_move (.tmp 0 rfl)) rfl ?_
        refine nx_o (op_extract (.tmp 0 rfl) rfl) rfl ?_
        refine nx_o (op_extract (.tmp 1 rfl) rfl) rfl ?_
        refine nx_o (op_assign (.tmp 1 rfl)) rfl ?_
        refine nx_o (op_assign (.tmp 1 rfl)) rfl ?_
        refine nx_nil ?_
        refine Says.ex (S' := [(15, SL 2 cSample v_r12.2), (14, SL 2 cSample v_r12.1), (0, .ref 1), (2, I v_a3), (3, I v_a4), (4, I v_a5), (11, I (v_a1.length : Int)), (12, I v_t7), (13, I v_t8)]) (O' := [(1, .row 28 6 cNode v_a1)]) (says_pick [0, 1, 10, 12, 13, 14, 15, 16, 17] [0] rfl rfl) ?_
        refine ex_kx (hK10 _ _ ?_)
        refine cw_seq fun K11 hK11 => ?_
        refine cw_region ?_
        refine nx_o (op_move (.tmp 2 rfl)) rfl ?_
        refine nx_o (op_move (.tmp 8 rfl)) rfl ?_
        refine nx_o (op_move (.tmp 10 rfl)) rfl ?_
        refine nx_o (op_move (.tmp 4 rfl)) rfl ?_
        refine nx_o (op_len (.tmp 0 rfl) u50) rfl ?_
        refine nx_o (op_move (.tmp 5 rfl)) rfl ?_
        refine nx_o (op_len (.tmp 0 rfl) u50) rfl ?_
        refine nx_o (op_gtr (.tmp 2 rfl) (.tmp 0 rfl)) rfl ?_
        refine nx_o (op_move (.tmp 14 rfl)) rfl ?_
        refine nx_o (op_add (.tmp 0 rfl) (Can.int _ _ _)) rfl ?_
        refine nx_o (op_build (l := (cNode (Node.mk v_t7 v_t8 (w64 ((v_a1.length : Int) + 1)) 0 (decide ((v_r12.1.length : Int) > (v_r12.2.length : Int))) 0))) (cNode (Node.mk 0 0 0 0 false 0)) bs28 zNode (.cons (.c (.tmp 8 rfl)) rfl (Nat.le_of_ble_eq_true rfl) (.cons (.c (.tmp 7 rfl)) rfl (Nat.le_of_ble_eq_true rfl) (.cons (.c (.tmp 2 rfl)) rfl (Nat.le_of_ble_eq_true rfl) (.cons (.c (.tmp 0 rfl)) rfl (Nat.le_of_ble_eq_true rfl) .nil)))) rfl) rfl ?_
        refine nx_o (op_buildSlice (cNode (Node.mk 0 0 0 0 false 0)) (n := 6) (c := cNode) ([(Node.mk v_t7 v_t8 (w64 ((v_a1.length : Int) + 1)) 0 (decide ((v_r12.1.length : Int) > (v_r12.2.length : Int))) 0)] : List Node) bl29 zNode (by decide) (by decide) (.cons (.agg (.tmp 0 rfl)) rfl (Nat.le_of_ble_eq_true rfl) .nil) rfl rfl (fun _ => rfl)) rfl ?_
        obtain ⟨v_t13, hv_t13, h⟩ := bnd h
        refine nx_k [0, 1, 2, 3, 4, 5, 6, 7, 8, 9, 10, 12, 13, 15, 16, 17, 18, 19, 20] (op_appendX hv_t13 14 (.tmp 11 rfl) 0 rfl (.tmp 0 rfl) u29 i28 (by decide) (by decide) (fun _ => rfl) rfl rfl) rfl rfl ?_
        show Nx _ _ _ _ _ [(57, .ref 14), (56, SL 6 cNode [(Node.mk v_t7 v_t8 (w64 ((v_a1.length : Int) + 1)) 0 (decide ((v_r12.1.length : Int) > (v_r12.2.length : Int))) 0)]), (55, .agg (cNode (Node.mk v_t7 v_t8 (w64 ((v_a1.length : Int) + 1)) 0 (decide ((v_r12.1.length : Int) > (v_r12.2.length : Int))) 0))), (54, I (w64 ((v_a1.length : Int) + 1))), (53, I (v_a1.length : Int)), (52, B (decide ((v_r12.1.length : Int) > (v_r12.2.length : Int)))), (51, I (v_r12.2.length : Int)), (50, SL 2 cSample v_r12.2), (49, I (v_r12.1.length : Int)), (48, SL 2 cSample v_r12.1), (47, I v_t8), (46, I v_t7), (15, SL 2 cSample v_r12.2), (14, SL 2 cSample v_r12.1), (2, I v_a3), (3, I v_a4), (4, I v_a5), (11, I (v_a1.length : Int)), (12, I v_t7), (13, I v_t8)] [(14, .row 28 6 cNode v_t13)]
        refine nx_o (op_assign (.tmp 0 rfl)) rfl ?_
        refine nx_nil ?_
        refine Says.ex (S' := [(0, .ref 14), (15, SL 2 cSample v_r12.2), (14, SL 2 cSample v_r12.1), (2, I v_a3), (3, I v_a4), (4, I v_a5), (11, I (v_a1.length : Int))]) (O' := [(14, .row 28 6 cNode v_t13)]) (says_pick [0, 13, 14, 15, 16, 17, 18] [0] rfl rfl) ?_
        refine ex_kx (hK11 _ _ ?_)
        refine cw_seq fun K12 hK12 => ?_
        refine cw_region ?_
        refine nx_o (op_move (.tmp 0 rfl)) rfl ?_
        refine nx_o (op_move (.tmp 3 rfl)) rfl ?_
        refine nx_o (op_move (.tmp 5 rfl)) rfl ?_
        refine nx_o (op_move (.tmp 7 rfl)) rfl ?_
        refine nx_o (op_sub (.tmp 0 rfl) (Can.int _ _ _)) rfl ?_
        refine nx_o (op_move (.tmp 10 rfl)) rfl ?_
        obtain ⟨v_r14, hv_r14, h⟩ := bnd h
        refine nx_k [0, 1, 2, 3, 4, 7, 8, 9, 10, 11, 12] (op_call (show Fn Go.Proofs.Tryd.prog 103 [.ref 14, SL 2 cSample v_r12.1, I v_a3, I (w64 (v_a4 - 1)), I v_a5] [(14, .row 28 6 cNode v_t13)] (.ref 15) [(15, .row 28 6 cNode v_r14)] from (Fn.swap (Fn.swap (ihrec v_t13 v_r12.1 v_a3 (w64 (v_a4 - 1)) v_a5 _ hv_r14) 11 15) 1 14)) c103 (.cons (.tmp 5 rfl) (.cons (.tmp 4 rfl) (.cons (.tmp 3 rfl) (.cons (.tmp 1 rfl) (.cons (.tmp 0 rfl) .nil))))) [0] rfl rfl rfl rfl rfl rfl) rfl rfl ?_
        show Nx _ _ _ _ _ [(64, .ref 15), (63, I v_a5), (62, I (w64 (v_a4 - 1))), (61, I v_a4), (60, I v_a3), (59, SL 2 cSample v_r12.1), (15, SL 2 cSample v_r12.2), (14, SL 2 cSample v_r12.1), (2, I v_a3), (3, I v_a4), (4, I v_a5), (11, I (v_a1.length : Int))] [(15, .row 28 6 cNode v_r14)]
        refine nx_o (op_assign (.tmp 0 rfl)) rfl ?_
        refine nx_nil ?_
        refine Says.ex (S' := [(0, .ref 15), (15, SL 2 cSample v_r12.2), (2, I v_a3), (3, I v_a4), (4, I v_a5), (11, I (v_a1.length : Int))]) (O' := [(15, .row 28 6 cNode v_r14)]) (says_pick [0, 7, 9, 10, 11, 12] [0] rfl rfl) ?_
        refine ex_kx (hK12 _ _ ?_)
        refine cw_seq fun K13 hK13 => ?_
        refine cw_region ?_
        refine nx_o (op_move (.tmp 0 rfl)) rfl ?_
        refine nx_o (op_move (.tmp 6 rfl)) rfl ?_
        refine nx_o (op_move (.tmp 2 rfl)) rfl ?_
        refine nx_o (op_lenR (.tmp 0 rfl) 0 rfl u29) rfl ?_
        obtain ⟨v_y15, hv_y15, h⟩ := bnd h
        refine nx_o (op_indexRX hv_y15 (.tmp 3 rfl) 0 rfl (.tmp 2 rfl) u29 s28) rfl ?_
        refine nx_o (op_fieldPt (.tmp 0 rfl) o28_3) rfl ?_
        refine nx_o0 (op_storeR (n := 6) (c := cNode) (l := v_r14) (.tmp 0 rfl) 0 rfl _ 3 ({ v_y15 with right := (v_r14.length : Int) }) rfl (ix_spec hv_y15).2 (Nat.le_of_ble_eq_true rfl) rfl (.tmp 2 rfl) s3) ?_
        show Nx _ _ _ _ _ [(70, .pt 15 (((v_a1.length : Int).toNat * 6) + 3)), (69, .pt 15 ((v_a1.length : Int).toNat * 6)), (68, I (v_r14.length : Int)), (67, .ref 15), (66, I (v_a1.length : Int)), (65, .ref 15), (0, .ref 15), (15, SL 2 cSample v_r12.2), (2, I v_a3), (3, I v_a4), (4, I v_a5), (11, I (v_a1.length : Int))] [(15, .row 28 6 cNode (v_r14.set (v_a1.length : Int).toNat ({ v_y15 with right := (v_r14.length : Int) })))]
        refine nx_nil ?_
        refine Says.ex (S' := [(0, .ref 15), (15, SL 2 cSample v_r12.2), (2, I v_a3), (3, I v_a4), (4, I v_a5)]) (O' := [(15, .row 28 6 cNode (v_r14.set (v_a1.length : Int).toNat ({ v_y15 with right := (v_r14.length : Int) })))]) (says_pick [6, 7, 8, 9, 10] [0] rfl rfl) ?_
        refine ex_kx (hK13 _ _ ?_)
        refine cw_seq fun K14 hK14 => ?_
        refine cw_region ?_
        refine nx_o (op_move (.tmp 0 rfl)) rfl ?_
        refine nx_o (op_move (.tmp 2 rfl)) rfl ?_
        refine nx_o (op_move (.tmp 4 rfl)) rfl ?_
        refine nx_o (op_move (.tmp 6 rfl)) rfl ?_
        refine nx_o (op_sub (.tmp 0 rfl) (Can.int _ _ _)) rfl ?_
        refine nx_o (op_move (.tmp 9 rfl)) rfl ?_
        obtain ⟨v_r16, hv_r16, h⟩ := bnd h
        refine nx_k [0, 1, 2, 3, 4, 7, 8, 9, 10] (op_call (show Fn Go.Proofs.Tryd.prog 103 [.ref 15, SL 2 cSample v_r12.2, I v_a3, I (w64 (v_a4 - 1)), I v_a5] [(15, .row 28 6 cNode (v_r14.set (v_a1.length : Int).toNat ({ v_y15 with right := (v_r14.length : Int) })))] (.ref 16) [(16, .row 28 6 cNode v_r16)] from (Fn.swap (Fn.swap (ihrec (v_r14.set (v_a1.length : Int).toNat ({ v_y15 with right := (v_r14.length : Int) })) v_r12.2 v_a3 (w64 (v_a4 - 1)) v_a5 _ hv_r16) 11 16) 1 15)) c103 (.cons (.tmp 5 rfl) (.cons (.tmp 4 rfl) (.cons (.tmp 3 rfl) (.cons (.tmp 1 rfl) (.cons (.tmp 0 rfl) .nil))))) [0] rfl rfl rfl rfl rfl rfl) rfl rfl ?_
        show Nx _ _ _ _ _ [(77, .ref 16), (76, I v_a5), (75, I (w64 (v_a4 - 1))), (74, I v_a4), (73, I v_a3), (72, SL 2 cSample v_r12.2), (15, SL 2 cSample v_r12.2), (2, I v_a3), (3, I v_a4), (4, I v_a5)] [(16, .row 28 6 cNode v_r16)]
        refine nx_o (op_assign (.tmp 0 rfl)) rfl ?_
        refine nx_nil ?_
        refine Says.ex (S' := [(10, .ref 16)]) (O' := [(16, .row 28 6 cNode v_r16)]) (says_pick [0] [0] rfl rfl) ?_
        refine ex_kx (hK14 _ _ ?_)
        refine cw_ret ?_
        refine Says.ex (says_swap 16 11 rfl rfl rfl rfl) ?_
        cases h
        exact ex_done (.inl rfl) rfl (fun a w G V hs _ hS => res1 rfl (.tmp 0 rfl) a w G V hS)
    ·
      refine cw_seq fun K15 hK15 => ?_
      refine cw_region ?_
      refine nx_o (op_move (.tmp 6 rfl)) rfl ?_
      refine nx_o (op_gtr (.tmp 0 rfl) (Can.int _ _ _)) rfl ?_
      refine nx_nil ?_
      refine Says.ex (S' := [(19, B (decide (v_a4 > 0))), (13, I 0), (12, I (-1)), (11, I (v_a1.length : Int)), (0, .ref 1), (1, SL 2 cSample v_a2), (2, I v_a3), (3, I v_a4), (4, I v_a5)]) (O' := [(1, .row 28 6 cNode v_a1)]) (says_pick [0, 2, 3, 4, 5, 6, 7, 8, 9] [0] rfl rfl) ?_
      refine ex_kx (hK15 _ _ ?_)
      refine cw_cond (b := (decide (v_a4 > 0))) (.tmp 0 rfl) (fun hc => ?_) (fun hc => ?_)
      · have h := ite_t hc h
        refine cw_region ?_
        refine nx_o (op_move (.tmp 5 rfl)) rfl ?_
        refine nx_o (op_move (.tmp 7 rfl)) rfl ?_
        refine nx_o (op_move (.tmp 10 rfl)) rfl ?_
        obtain ⟨v_r17, hv_r17, h⟩ := bnd h
        refine nx_o (op_call0 (show Fn Go.Proofs.Tryd.prog 101 [SL 2 cSample v_a2, I v_a3, I v_a5] [] (.tup [I v_r17.1, I v_r17.2]) [] from (f101_fn N v_a2 v_a3 v_a5 _ hv_r17)) c101 (.cons (.tmp 2 rfl) (.cons (.tmp 1 rfl) (.cons (.tmp 0 rfl) .nil)))) rfl ?_
        refine nx_o (op_move (.tmp 0 rfl)) rfl ?_
        refine nx_o (op_extract (.tmp 0 rfl) rfl) rfl ?_
        refine nx_o (op_extract (.tmp 1 rfl) rfl) rfl ?_
        refine nx_k [0, 1, 2, 3, 4, 5, 6, 7, 8, 10, 11, 12, 13, 14, 15] (op_assign (.tmp 1 rfl)) rfl rfl ?_
        show Nx _ _ _ _ _ [(12, I v_r17.1), (26, I v_r17.2), (25, I v_r17.1), (20, .tup [I v_r17.1, I v_r17.2]), (24, .tup [I v_r17.1, I v_r17.2]), (23, I v_a5), (22, I v_a3), (21, SL 2 cSample v_a2), (19, B (decide (v_a4 > 0))), (13, I 0), (11, I (v_a1.length : Int)), (0, .ref 1), (1, SL 2 cSample v_a2), (2, I v_a3), (3, I v_a4), (4, I v_a5)] [(1, .row 28 6 cNode v_a1)]
        refine nx_k [0, 1, 2, 3, 4, 5, 6, 7, 8, 10, 11, 12, 13, 14, 15] (op_assign (.tmp 1 rfl)) rfl rfl ?_
        show Nx _ _ _ _ _ [(13, I v_r17.2), (12, I v_r17.1), (26, I v_r17.2), (25, I v_r17.1), (20, .tup [I v_r17.1, I v_r17.2]), (24, .tup [I v_r17.1, I v_r17.2]), (23, I v_a5), (22, I v_a3), (21, SL 2 cSample v_a2), (19, B (decide (v_a4 > 0))), (11, I (v_a1.length : Int)), (0, .ref 1), (1, SL 2 cSample v_a2), (2, I v_a3), (3, I v_a4), (4, I v_a5)] [(1, .row 28 6 cNode v_a1)]
        refine nx_nil ?_
        refine Says.ex (S' := [(13, I v_r17.2), (12, I v_r17.1), (11, I (v_a1.length : Int)), (0, .ref 1), (1, SL 2 cSample v_a2), (2, I v_a3), (3, I v_a4), (4, I v_a5)]) (O' := [(1, .row 28 6 cNode v_a1)]) (says_pick [0, 1, 10, 11, 12, 13, 14, 15] [0] rfl rfl) ?_
        refine ex_kx ?_
        refine Says.kx (S' := [(0, .ref 1), (1, SL 2 cSample v_a2), (2, I v_a3), (3, I v_a4), (4, I v_a5), (11, I (v_a1.length : Int)), (12, I v_r17.1), (13, I v_r17.2)]) (O' := [(1, .row 28 6 cNode v_a1)]) (says_pick [3, 4, 5, 6, 7, 2, 1, 0] [0] rfl rfl) ?_
        exact hK6 _ _ ⟨v_r17.1, v_r17.2, h, rfl, rfl⟩
      · have h := ite_f hc h
        refine cw_skip ?_
        refine ex_kx ?_
        refine Says.kx (S' := [(0, .ref 1), (1, SL 2 cSample v_a2), (2, I v_a3), (3, I v_a4), (4, I v_a5), (11, I (v_a1.length : Int)), (12, I (-1)), (13, I 0)]) (O' := [(1, .row 28 6 cNode v_a1)]) (says_pick [4, 5, 6, 7, 8, 3, 2, 1] [0] rfl rfl) ?_
        exact hK6 _ _ ⟨(-1), 0, h, rfl, rfl⟩

theorem f46_fn (N : Nat) (v_l1 : List Sample) (v_features2 : Int) (v_depth3 : Int) (v_least4 : Int) (r : (List Node) × (Option Int)) (h : grow_Fit N v_l1 v_features2 v_depth3 v_least4 = some r) : Fn Go.Proofs.Tryd.prog 46 [SL 2 cSample v_l1, I v_features2, I v_depth3, I v_least4] [] (.tup [SL 6 cNode r.1, Er TE r.2]) [] := by
  unfold grow_Fit at h
  refine fn_intro [] fun46 rfl rfl (Nat.le_of_ble_eq_true rfl) rfl rfl (fun w G V => ?_)
  show Cw _ _ _ _ [(0, SL 2 cSample v_l1), (1, I v_features2), (2, I v_depth3), (3, I v_least4)] []
  refine cw_seq fun K1 hK1 => ?_
  refine cw_region ?_
  refine nx_o (op_assign (Can.raw _ _)) rfl ?_
  refine nx_o (op_assign (Can.nilE _ TE)) rfl ?_
  refine nx_nil ?_
  refine Says.ex (S' := [(0, SL 2 cSample v_l1), (1, I v_features2), (2, I v_depth3), (3, I v_least4)]) (O' := []) (says_pick [2, 3, 4, 5] [] rfl rfl) ?_
  refine ex_kx (hK1 _ _ ?_)
  refine cw_seq fun K2 hK2 => ?_
  refine cw_seq fun K3 hK3 => ?_
  refine cw_region ?_
  refine nx_o (op_move (.tmp 0 rfl)) rfl ?_
  refine nx_o (op_move (.tmp 2 rfl)) rfl ?_
  obtain ⟨v_r5, hv_r5, h⟩ := bnd h
  refine nx_o (op_call0 (show Fn Go.Proofs.Tryd.prog 42 [SL 2 cSample v_l1, I v_features2] [] (.tup [I v_r5.1, Er TE v_r5.2]) [] from (f42_fn N v_l1 v_features2 _ hv_r5)) c42 (.cons (.tmp 1 rfl) (.cons (.tmp 0 rfl) .nil))) rfl ?_
  refine nx_o (op_move (.tmp 0 rfl)) rfl ?_
  refine nx_o (op_extract (.tmp 0 rfl) rfl) rfl ?_
  refine nx_o (op_extract (.tmp 1 rfl) rfl) rfl ?_
  refine nx_o (op_assign (.tmp 1 rfl)) rfl ?_
  refine nx_o (op_assign (.tmp 1 rfl)) rfl ?_
  refine nx_nil ?_
  refine Says.ex (S' := [(11, Er TE v_r5.2), (0, SL 2 cSample v_l1), (1, I v_features2), (2, I v_depth3), (3, I v_least4)]) (O' := []) (says_pick [0, 8, 9, 10, 11] [] rfl rfl) ?_
  refine ex_kx (hK3 _ _ ?_)
  refine cw_seq fun K4 hK4 => ?_
  refine cw_region ?_
  refine nx_o (op_move (.tmp 0 rfl)) rfl ?_
  refine nx_o (op_neqNil (.tmp 0 rfl) u32) rfl ?_
  refine nx_nil ?_
  refine Says.ex (S' := [(19, B v_r5.2.isSome), (11, Er TE v_r5.2), (0, SL 2 cSample v_l1), (1, I v_features2), (2, I v_depth3), (3, I v_least4)]) (O' := []) (says_pick [0, 2, 3, 4, 5, 6] [] rfl rfl) ?_
  refine ex_kx (hK4 _ _ ?_)
  refine cw_cond (b := v_r5.2.isSome) (.tmp 0 rfl) (fun hc => ?_) (fun hc => ?_)
  · have h := ite_t hc h
    refine cw_seq fun K5 hK5 => ?_
    refine cw_region ?_
    refine nx_o (op_move (.tmp 1 rfl)) rfl ?_
    refine nx_o (op_assign (Can.raw _ _)) rfl ?_
    refine nx_o (op_assign (.tmp 1 rfl)) rfl ?_
    refine nx_nil ?_
    refine Says.ex (S' := [(9, Er TE v_r5.2), (8, .raw (.slice none 0 0))]) (O' := []) (says_pick [0, 1] [] rfl rfl) ?_
    refine ex_kx (hK5 _ _ ?_)
    refine cw_ret ?_
    refine ex_tr ?_
    refine Says.ex (says_less 8 1 rfl (.nil 6 cNode) rfl) ?_
    show Ex _ _ _ [(9, Er TE v_r5.2), (8, SL 6 cNode [])] []
    cases h
    refine Says.ex (S' := [(8, SL 6 cNode []), (9, Er TE v_r5.2)]) (O' := []) (says_pick [1, 0] [] rfl rfl) ?_
    exact ex_done (.inl rfl) rfl (fun a w G V hs _ hS => resM rfl (.tmp (.tmp 0 rfl) (.tmp (.tmp 1 rfl) .nil)) a w G V hs hS)
  · have h := ite_f hc h
    refine cw_skip ?_
    refine ex_kx (hK2 _ _ ?_)
    refine cw_seq fun K6 hK6 => ?_
    refine cw_seq fun K7 hK7 => ?_
    refine cw_region ?_
    refine nx_o (op_move (.tmp 4 rfl)) rfl ?_
    refine nx_o (op_lss (.tmp 0 rfl) (Can.int _ _ _)) rfl ?_
    refine nx_o (op_move (.tmp 0 rfl)) rfl ?_
    refine nx_g (opy_guard (cc := (!(decide (v_depth3 < 0)))) (.plain 0 rfl) rfl rfl (fun hg => (op_move (.tmp 7 rfl)))) rfl ?_
    refine nx_g (opy_guard (cc := (!(decide (v_depth3 < 0)))) (.plain 1 rfl) rfl rfl (fun hg => (op_gtr (.cd 0 rfl hg) (Can.int _ _ _)))) rfl ?_
    refine nx_o (op_or (.tmp 2 rfl) (fun hp => (.cd 0 rfl (not_t hp)))) rfl ?_
    refine nx_o (op_move (.tmp 0 rfl)) rfl ?_
    refine nx_g (opy_guard (cc := (!((decide (v_depth3 < 0)) || (decide (v_depth3 > 5))))) (.plain 0 rfl) rfl rfl (fun hg => (op_move (.tmp 12 rfl)))) rfl ?_
    obtain ⟨v_r6, hv_r6, h⟩ := bnd h
    refine nx_g (opy_guard (cc := (!((decide (v_depth3 < 0)) || (decide (v_depth3 > 5))))) (.plain 1 rfl) rfl rfl (fun hg => (op_call0 (show Fn Go.Proofs.Tryd.prog 100 [I v_least4] [] (B v_r6) [] from (f100_fn N v_least4 _ (gd_t hg hv_r6))) c100 (.cons (.cd 0 rfl hg) .nil)))) rfl ?_
    refine nx_g (opy_guard (cc := (!((decide (v_depth3 < 0)) || (decide (v_depth3 > 5))))) (.plain 2 rfl) rfl rfl (fun hg => (op_not (.cd 0 rfl hg)))) rfl ?_
    refine nx_o (op_or (.tmp 3 rfl) (fun hp => (.cd 0 rfl (not_t hp)))) rfl ?_
    refine nx_nil ?_
    refine Says.ex (S' := [(31, B (((decide (v_depth3 < 0)) || (decide (v_depth3 > 5))) || (!v_r6))), (0, SL 2 cSample v_l1), (1, I v_features2), (2, I v_depth3), (3, I v_least4)]) (O' := []) (says_pick [0, 13, 14, 15, 16] [] rfl rfl) ?_
    refine ex_kx (hK7 _ _ ?_)
    refine cw_cond (b := (((decide (v_depth3 < 0)) || (decide (v_depth3 > 5))) || (!v_r6))) (.tmp 0 rfl) (fun hc => ?_) (fun hc => ?_)
    · have h := ite_t hc h
      refine cw_seq fun K8 hK8 => ?_
      refine cw_region ?_
      refine nx_o (op_mkErr (Can.int _ _ _) u123 (fun _ h => by cases h)) rfl ?_
      refine nx_o (op_assign (Can.raw _ _)) rfl ?_
      refine nx_o (op_assign (.tmp 1 rfl)) rfl ?_
      refine nx_nil ?_
      refine Says.ex (S' := [(9, Er TE (some 1)), (8, .raw (.slice none 0 0))]) (O' := []) (says_pick [0, 1] [] rfl rfl) ?_
      refine ex_kx (hK8 _ _ ?_)
      refine cw_ret ?_
      refine ex_tr ?_
      refine Says.ex (says_less 8 1 rfl (.nil 6 cNode) rfl) ?_
      show Ex _ _ _ [(9, Er TE (some 1)), (8, SL 6 cNode [])] []
      cases h
      refine Says.ex (S' := [(8, SL 6 cNode []), (9, Er TE (some 1))]) (O' := []) (says_pick [1, 0] [] rfl rfl) ?_
      exact ex_done (.inl rfl) rfl (fun a w G V hs _ hS => resM rfl (.tmp (.tmp 0 rfl) (.tmp (.tmp 1 rfl) .nil)) a w G V hs hS)
    · have h := ite_f hc h
      refine cw_skip ?_
      refine ex_kx (hK6 _ _ ?_)
      refine cw_seq fun K9 hK9 => ?_
      refine cw_region ?_
      refine nx_o (op_move (.tmp 1 rfl)) rfl ?_
      refine nx_o (op_move (.tmp 3 rfl)) rfl ?_
      refine nx_o (op_move (.tmp 5 rfl)) rfl ?_
      refine nx_o (op_move (.tmp 7 rfl)) rfl ?_
      obtain ⟨v_r7, hv_r7, h⟩ := bnd h
      refine nx_op (op_call (show Fn Go.Proofs.Tryd.prog 103 [.raw (.slice none 0 0), SL 2 cSample v_l1, I v_features2, I v_depth3, I v_least4] [] (.ref 101) [(101, .row 28 6 cNode v_r7)] from (Fn.swap (Fn.nilArg (f103_fn N [] v_l1 v_features2 v_depth3 v_least4 _ hv_r7) rfl rfl) 11 101)) c103 (.cons (Can.raw _ _) (.cons (.tmp 3 rfl) (.cons (.tmp 2 rfl) (.cons (.tmp 1 rfl) (.cons (.tmp 0 rfl) .nil))))) [] rfl rfl rfl rfl rfl rfl) rfl ?_
      show Nx _ _ _ _ _ [(37, .ref 101), (36, I v_least4), (35, I v_depth3), (34, I v_features2), (33, SL 2 cSample v_l1), (31, B (((decide (v_depth3 < 0)) || (decide (v_depth3 > 5))) || (!v_r6))), (0, SL 2 cSample v_l1), (1, I v_features2), (2, I v_depth3), (3, I v_least4)] [(101, .row 28 6 cNode v_r7)]
      refine nx_o (op_assign (.tmp 0 rfl)) rfl ?_
      refine nx_o (op_assign (Can.nilE _ TE)) rfl ?_
      refine nx_nil ?_
      refine Says.ex (S' := [(9, Er TE none), (8, .ref 101)]) (O' := [(101, .row 28 6 cNode v_r7)]) (says_pick [0, 1] [0] rfl rfl) ?_
      refine ex_kx (hK9 _ _ ?_)
      refine cw_ret ?_
      refine Says.ex (says_freezeRow (k := 101) 0 rfl rfl (fun _ => rfl) rfl rfl) ?_
      show Ex _ _ _ [(9, Er TE none), (8, SL 6 cNode v_r7)] []
      cases h
      refine Says.ex (S' := [(8, SL 6 cNode v_r7), (9, Er TE none)]) (O' := []) (says_pick [1, 0] [] rfl rfl) ?_
      exact ex_done (.inl rfl) rfl (fun a w G V hs _ hS => resM rfl (.tmp (.tmp 0 rfl) (.tmp (.tmp 1 rfl) .nil)) a w G V hs hS)

theorem f47_fn (N : Nat) (v_a1 : List Node) (v_b2 : List Node) (r : Bool) (h : orchsame_Nodes N v_a1 v_b2 = some r) : Fn Go.Proofs.Tryd.prog 47 [SL 6 cNode v_a1, SL 6 cNode v_b2] [] (B r) [] := by
  unfold orchsame_Nodes at h
  refine fn_intro [] fun47 rfl rfl (Nat.le_of_ble_eq_true rfl) rfl rfl (fun w G V => ?_)
  show Cw _ _ _ _ [(0, SL 6 cNode v_a1), (1, SL 6 cNode v_b2)] []
  refine cw_seq fun K1 hK1 => ?_
  refine cw_region ?_
  refine nx_o (op_assign (Can.bool _ _)) rfl ?_
  refine nx_nil ?_
  refine Says.ex (S' := [(0, SL 6 cNode v_a1), (1, SL 6 cNode v_b2)]) (O' := []) (says_pick [1, 2] [] rfl rfl) ?_
  refine ex_kx (hK1 _ _ ?_)
  refine cw_seq fun K2 hK2 => ?_
  refine cw_seq fun K3 hK3 => ?_
  refine cw_region ?_
  refine nx_o (op_move (.tmp 0 rfl)) rfl ?_
  refine nx_o (op_len (.tmp 0 rfl) u29) rfl ?_
  refine nx_o (op_move (.tmp 3 rfl)) rfl ?_
  refine nx_o (op_len (.tmp 0 rfl) u29) rfl ?_
  refine nx_o (op_neq (.tmp 2 rfl) (.tmp 0 rfl)) rfl ?_
  refine nx_nil ?_
  refine Says.ex (S' := [(10, B ((v_a1.length : Int) != (v_b2.length : Int))), (0, SL 6 cNode v_a1), (1, SL 6 cNode v_b2)]) (O' := []) (says_pick [0, 5, 6] [] rfl rfl) ?_
  refine ex_kx (hK3 _ _ ?_)
  refine cw_cond (b := ((v_a1.length : Int) != (v_b2.length : Int))) (.tmp 0 rfl) (fun hc => ?_) (fun hc => ?_)
  · have h := ite_t hc h
    refine cw_seq fun K4 hK4 => ?_
    refine cw_region ?_
    refine nx_o (op_assign (Can.bool _ _)) rfl ?_
    refine nx_nil ?_
    refine Says.ex (S' := [(4, B false)]) (O' := []) (says_pick [0] [] rfl rfl) ?_
    refine ex_kx (hK4 _ _ ?_)
    refine cw_ret ?_
    refine ex_tr ?_
    cases h
    exact ex_done (.inl rfl) rfl (fun a w G V hs _ hS => res1 rfl (.tmp 0 rfl) a w G V hS)
  · have h := ite_f hc h
    refine cw_skip ?_
    refine ex_kx (hK2 _ _ ?_)
    refine cw_join (fun S O => orchsame_Nodes_j1 N = some r ∧ S = [] ∧ O = []) ?_ (fun K23 hK23 => ?_)
    · rintro S O ⟨h, rfl, rfl⟩
      unfold orchsame_Nodes_j1 at h
      refine cw_seq fun K24 hK24 => ?_
      refine cw_region ?_
      refine nx_o (op_assign (Can.bool _ _)) rfl ?_
      refine nx_nil ?_
      refine ex_kx (hK24 _ _ ?_)
      refine cw_ret ?_
      cases h
      exact ex_done (.inl rfl) rfl (fun a w G V hs _ hS => res1 rfl (.tmp 0 rfl) a w G V hS)
    ·
      refine cw_seq fun K25 hK25 => ?_
      refine cw_region ?_
      refine nx_o (op_assign (Can.int _ _ _)) rfl ?_
      refine nx_nil ?_
      refine Says.ex (S' := [(5, I 0), (0, SL 6 cNode v_a1), (1, SL 6 cNode v_b2)]) (O' := []) (says_pick [0, 2, 3] [] rfl rfl) ?_
      refine ex_kx (hK25 _ _ ?_)
      refine cw_block ?_
      refine Says.cw (S' := [(0, SL 6 cNode v_a1), (1, SL 6 cNode v_b2), (5, I 0)]) (O' := []) (says_pick [1, 2, 0] [] rfl rfl) ?_
      refine cw_loopJ (fun n S O => ∃ (v_i16 : Int), orchsame_Nodes_l1 N v_a1 v_b2 n v_i16 = some r ∧ S = [(0, SL 6 cNode v_a1), (1, SL 6 cNode v_b2), (5, I v_i16)] ∧ O = []) ?_ ?_ N ⟨0, h, rfl, rfl⟩
      · rintro S O ⟨v_i16, h, -, -⟩
        simp [orchsame_Nodes_l1] at h
      · rintro n_1 S O ⟨v_i16, h, rfl, rfl⟩ K36 hK36
        rw [orchsame_Nodes_l1] at h
        refine cw_seq fun K37 hK37 => ?_
        refine cw_seq fun K38 hK38 => ?_
        refine cw_region ?_
        refine nx_o (op_move (.tmp 2 rfl)) rfl ?_
        refine nx_o (op_move (.tmp 1 rfl)) rfl ?_
        refine nx_o (op_len (.tmp 0 rfl) u29) rfl ?_
        refine nx_o (op_lss (.tmp 2 rfl) (.tmp 0 rfl)) rfl ?_
        refine nx_nil ?_
        refine Says.ex (S' := [(14, B (decide (v_i16 < (v_a1.length : Int)))), (0, SL 6 cNode v_a1), (1, SL 6 cNode v_b2), (5, I v_i16)]) (O' := []) (says_pick [0, 4, 5, 6] [] rfl rfl) ?_
        refine ex_kx (hK38 _ _ ?_)
        refine cw_cond (b := (decide (v_i16 < (v_a1.length : Int)))) (.tmp 0 rfl) (fun hc => ?_) (fun hc => ?_)
        · have h := ite_t hc h
          refine cw_skip ?_
          refine ex_kx (hK37 _ _ ?_)
          refine cw_seq fun K39 hK39 => ?_
          refine cw_block ?_
          refine cw_seq fun K40 hK40 => ?_
          obtain ⟨v_y17, hv_y17, h⟩ := bnd h
          obtain ⟨v_y18, hv_y18, h⟩ := bnd h
          refine cw_draw (Plan.mk [] [[], [], [0, 1], [0, 1, 2], [], [], [4, 5], [4, 5, 6], [0, 1, 2, 3, 4, 5, 6, 7]] [[(14, B (decide (v_i16 < (v_a1.length : Int)))), (0, SL 6 cNode v_a1), (1, SL 6 cNode v_b2), (5, I v_i16)]] [[]] [(17, SL 6 cNode v_a1), (18, I v_i16), (19, .ptr (cNode v_y17)), (20, .agg (cNode v_y17)), (21, SL 6 cNode v_b2), (22, I v_i16), (23, .ptr (cNode v_y18)), (24, .agg (cNode v_y18)), (25, B (!(eqNode v_y17 v_y18)))]) mixed rfl rfl rfl rfl ?_ ?_ ?_
          · exact (And.intro (fun _ => (And.intro (show OpY _ _ _ [(14, B (decide (v_i16 < (v_a1.length : Int)))), (0, SL 6 cNode v_a1), (1, SL 6 cNode v_b2), (5, I v_i16)] [] _ (SL 6 cNode v_a1) [] allp from (OpX.y (op_move (.tmp 1 rfl)) rfl)) trivial)) (And.intro (fun _ => (And.intro (show OpY _ _ _ [(14, B (decide (v_i16 < (v_a1.length : Int)))), (0, SL 6 cNode v_a1), (1, SL 6 cNode v_b2), (5, I v_i16)] [] _ (I v_i16) [] allp from (OpX.y (op_move (.tmp 3 rfl)) rfl)) trivial)) (And.intro (fun _ => (And.intro (show OpY _ _ _ [(14, B (decide (v_i16 < (v_a1.length : Int)))), (0, SL 6 cNode v_a1), (1, SL 6 cNode v_b2), (5, I v_i16), (17, SL 6 cNode v_a1), (18, I v_i16)] [] _ (.ptr (cNode v_y17)) [] allp from (OpX.y (op_indexX hv_y17 (.tmp 4 rfl) (.tmp 5 rfl) u29 s28) rfl)) trivial)) (And.intro (fun _ => (And.intro (show OpY _ _ _ [(14, B (decide (v_i16 < (v_a1.length : Int)))), (0, SL 6 cNode v_a1), (1, SL 6 cNode v_b2), (5, I v_i16), (17, SL 6 cNode v_a1), (18, I v_i16), (19, .ptr (cNode v_y17))] [] _ (.agg (cNode v_y17)) [] allp from (OpX.y (op_loadA (cNode v_y17) (.tmp 6 rfl) a28 s28 rfl) rfl)) trivial)) (And.intro (fun _ => (And.intro (show OpY _ _ _ [(14, B (decide (v_i16 < (v_a1.length : Int)))), (0, SL 6 cNode v_a1), (1, SL 6 cNode v_b2), (5, I v_i16)] [] _ (SL 6 cNode v_b2) [] allp from (OpX.y (op_move (.tmp 2 rfl)) rfl)) trivial)) (And.intro (fun _ => (And.intro (show OpY _ _ _ [(14, B (decide (v_i16 < (v_a1.length : Int)))), (0, SL 6 cNode v_a1), (1, SL 6 cNode v_b2), (5, I v_i16)] [] _ (I v_i16) [] allp from (OpX.y (op_move (.tmp 3 rfl)) rfl)) trivial)) (And.intro (fun _ => (And.intro (show OpY _ _ _ [(14, B (decide (v_i16 < (v_a1.length : Int)))), (0, SL 6 cNode v_a1), (1, SL 6 cNode v_b2), (5, I v_i16), (21, SL 6 cNode v_b2), (22, I v_i16)] [] _ (.ptr (cNode v_y18)) [] allp from (OpX.y (op_indexX hv_y18 (.tmp 4 rfl) (.tmp 5 rfl) u29 s28) rfl)) trivial)) (And.intro (fun _ => (And.intro (show OpY _ _ _ [(14, B (decide (v_i16 < (v_a1.length : Int)))), (0, SL 6 cNode v_a1), (1, SL 6 cNode v_b2), (5, I v_i16), (21, SL 6 cNode v_b2), (22, I v_i16), (23, .ptr (cNode v_y18))] [] _ (.agg (cNode v_y18)) [] allp from (OpX.y (op_loadA (cNode v_y18) (.tmp 6 rfl) a28 s28 rfl) rfl)) trivial)) (And.intro (fun _ => (And.intro (show OpY _ _ _ [(14, B (decide (v_i16 < (v_a1.length : Int)))), (0, SL 6 cNode v_a1), (1, SL 6 cNode v_b2), (5, I v_i16), (17, SL 6 cNode v_a1), (18, I v_i16), (19, .ptr (cNode v_y17)), (20, .agg (cNode v_y17)), (21, SL 6 cNode v_b2), (22, I v_i16), (23, .ptr (cNode v_y18)), (24, .agg (cNode v_y18))] [] _ (B (!(eqNode v_y17 v_y18))) [] allp from (OpX.y (op_neqA (.tmp 7 rfl) (.tmp 11 rfl) sf28 (eql28 v_y17 v_y18)) rfl)) trivial)) trivial)))))))))
          · exact trivial
          show Ex _ _ _ [(14, B (decide (v_i16 < (v_a1.length : Int)))), (0, SL 6 cNode v_a1), (1, SL 6 cNode v_b2), (5, I v_i16), (17, SL 6 cNode v_a1), (18, I v_i16), (19, .ptr (cNode v_y17)), (20, .agg (cNode v_y17)), (21, SL 6 cNode v_b2), (22, I v_i16), (23, .ptr (cNode v_y18)), (24, .agg (cNode v_y18)), (25, B (!(eqNode v_y17 v_y18)))] []
          refine Says.ex (S' := [(0, SL 6 cNode v_a1), (1, SL 6 cNode v_b2), (5, I v_i16), (25, B (!(eqNode v_y17 v_y18)))]) (O' := []) (says_pick [1, 2, 3, 12] [] rfl rfl) ?_
          refine ex_kx (hK40 _ _ ?_)
          refine cw_cond (b := (!(eqNode v_y17 v_y18))) (.tmp 3 rfl) (fun hc => ?_) (fun hc => ?_)
          · have h := ite_t hc h
            refine cw_seq fun K41 hK41 => ?_
            refine cw_region ?_
            refine nx_o (op_assign (Can.bool _ _)) rfl ?_
            refine nx_nil ?_
            refine Says.ex (S' := [(4, B false)]) (O' := []) (says_pick [0] [] rfl rfl) ?_
            refine ex_kx (hK41 _ _ ?_)
            refine cw_ret ?_
            refine ex_br ?_
            refine ex_tr ?_
            refine ex_tr ?_
            refine ex_br ?_
            refine ex_tr ?_
            cases h
            exact ex_done (.inl rfl) rfl (fun a w G V hs _ hS => res1 rfl (.tmp 0 rfl) a w G V hS)
          · have h := ite_f hc h
            refine cw_skip ?_
            refine ex_bn ?_
            refine ex_kx (hK39 _ _ ?_)
            refine cw_region ?_
            refine nx_o (op_move (.tmp 2 rfl)) rfl ?_
            refine nx_o (op_add (.tmp 0 rfl) (Can.int _ _ _)) rfl ?_
            refine nx_k [0, 1, 2, 3, 5] (op_assign (.tmp 0 rfl)) rfl rfl ?_
            show Nx _ _ _ _ _ [(5, I (w64 (v_i16 + 1))), (16, I (w64 (v_i16 + 1))), (15, I v_i16), (0, SL 6 cNode v_a1), (1, SL 6 cNode v_b2), (25, B (!(eqNode v_y17 v_y18)))] []
            refine nx_nil ?_
            refine Says.ex (S' := [(5, I (w64 (v_i16 + 1))), (0, SL 6 cNode v_a1), (1, SL 6 cNode v_b2)]) (O' := []) (says_pick [0, 3, 4] [] rfl rfl) ?_
            refine ex_kx ?_
            refine Says.kx (S' := [(0, SL 6 cNode v_a1), (1, SL 6 cNode v_b2), (5, I (w64 (v_i16 + 1)))]) (O' := []) (says_pick [1, 2, 0] [] rfl rfl) ?_
            exact hK36 _ _ ⟨w64 (v_i16 + 1), h, rfl, rfl⟩
        · have h := ite_f hc h
          refine cw_exit ?_
          refine ex_te ?_
          refine ex_te ?_
          refine ex_be ?_
          refine ex_kx ?_
          refine Says.kx (S' := []) (O' := []) (says_pick [] [] rfl rfl) ?_
          exact hK23 _ _ ⟨h, rfl, rfl⟩

theorem f123_fn : ∀ (N : Nat) (v_t1 : List Node) (v_at2 : Int) (r : Int), orchref1_Depth N v_t1 v_at2 = some r → Fn Go.Proofs.Tryd.prog 123 [SL 6 cNode v_t1, I v_at2] [] (I r) [] := by
  intro N
  induction N with
  | zero => intro v_t1 v_at2 r h; simp [orchref1_Depth] at h
  | succ N ihrec =>
    intro v_t1 v_at2 r h
    rw [orchref1_Depth] at h
    refine fn_intro [] fun123 rfl rfl (Nat.le_of_ble_eq_true rfl) rfl rfl (fun w G V => ?_)
    show Cw _ _ _ _ [(0, SL 6 cNode v_t1), (1, I v_at2)] []
    refine cw_seq fun K1 hK1 => ?_
    refine cw_region ?_
    refine nx_o (op_assign (Can.int _ _ _)) rfl ?_
    refine nx_nil ?_
    refine Says.ex (S' := [(0, SL 6 cNode v_t1), (1, I v_at2)]) (O' := []) (says_pick [1, 2] [] rfl rfl) ?_
    refine ex_kx (hK1 _ _ ?_)
    refine cw_seq fun K2 hK2 => ?_
    refine cw_seq fun K3 hK3 => ?_
    refine cw_region ?_
    refine nx_o (op_move (.tmp 0 rfl)) rfl ?_
    refine nx_o (op_move (.tmp 2 rfl)) rfl ?_
    obtain ⟨v_y3, hv_y3, h⟩ := bnd h
    refine nx_o (op_indexX hv_y3 (.tmp 1 rfl) (.tmp 0 rfl) u29 s28) rfl ?_
    refine nx_o (op_field (.tmp 0 rfl) o28_0) rfl ?_
    refine nx_o (op_load1 (.tmp 0 rfl) a3) rfl ?_
    refine nx_o (op_eql (.tmp 0 rfl) (Can.int _ _ _)) rfl ?_
    refine nx_nil ?_
    refine Says.ex (S' := [(12, B (v_y3.feature == (-1))), (0, SL 6 cNode v_t1), (1, I v_at2)]) (O' := []) (says_pick [0, 6, 7] [] rfl rfl) ?_
    refine ex_kx (hK3 _ _ ?_)
    refine cw_cond (b := (v_y3.feature == (-1))) (.tmp 0 rfl) (fun hc => ?_) (fun hc => ?_)
    · have h := ite_t hc h
      refine cw_seq fun K4 hK4 => ?_
      refine cw_region ?_
      refine nx_o (op_assign (Can.int _ _ _)) rfl ?_
      refine nx_nil ?_
      refine Says.ex (S' := [(4, I 0)]) (O' := []) (says_pick [0] [] rfl rfl) ?_
      refine ex_kx (hK4 _ _ ?_)
      refine cw_ret ?_
      refine ex_tr ?_
      cases h
      exact ex_done (.inl rfl) rfl (fun a w G V hs _ hS => res1 rfl (.tmp 0 rfl) a w G V hS)
    · have h := ite_f hc h
      refine cw_skip ?_
      refine ex_kx (hK2 _ _ ?_)
      refine cw_seq fun K5 hK5 => ?_
      refine cw_region ?_
      refine nx_o (op_move (.tmp 1 rfl)) rfl ?_
      refine nx_o (op_move (.tmp 2 rfl)) rfl ?_
      refine nx_o (op_move (.tmp 4 rfl)) rfl ?_
      obtain ⟨v_y4, hv_y4, h⟩ := bnd h
      refine nx_o (op_indexX hv_y4 (.tmp 1 rfl) (.tmp 0 rfl) u29 s28) rfl ?_
      refine nx_o (op_field (.tmp 0 rfl) o28_2) rfl ?_
      refine nx_o (op_load1 (.tmp 0 rfl) a3) rfl ?_
      obtain ⟨v_r5, hv_r5, h⟩ := bnd h
      refine nx_o (op_call0 (show Fn Go.Proofs.Tryd.prog 123 [SL 6 cNode v_t1, I v_y4.left] [] (I v_r5) [] from (ihrec v_t1 v_y4.left _ hv_r5)) c123 (.cons (.tmp 5 rfl) (.cons (.tmp 0 rfl) .nil))) rfl ?_
      refine nx_o (op_assign (.tmp 0 rfl)) rfl ?_
      refine nx_nil ?_
      refine Says.ex (S' := [(5, I v_r5), (0, SL 6 cNode v_t1), (1, I v_at2)]) (O' := []) (says_pick [0, 9, 10] [] rfl rfl) ?_
      refine ex_kx (hK5 _ _ ?_)
      refine cw_seq fun K6 hK6 => ?_
      refine cw_region ?_
      refine nx_o (op_move (.tmp 1 rfl)) rfl ?_
      refine nx_o (op_move (.tmp 2 rfl)) rfl ?_
      refine nx_o (op_move (.tmp 4 rfl)) rfl ?_
      obtain ⟨v_y6, hv_y6, h⟩ := bnd h
      refine nx_o (op_indexX hv_y6 (.tmp 1 rfl) (.tmp 0 rfl) u29 s28) rfl ?_
      refine nx_o (op_field (.tmp 0 rfl) o28_3) rfl ?_
      refine nx_o (op_load1 (.tmp 0 rfl) a3) rfl ?_
      obtain ⟨v_r7, hv_r7, h⟩ := bnd h
      refine nx_o (op_call0 (show Fn Go.Proofs.Tryd.prog 123 [SL 6 cNode v_t1, I v_y6.right] [] (I v_r7) [] from (ihrec v_t1 v_y6.right _ hv_r7)) c123 (.cons (.tmp 5 rfl) (.cons (.tmp 0 rfl) .nil))) rfl ?_
      refine nx_o (op_assign (.tmp 0 rfl)) rfl ?_
      refine nx_nil ?_
      refine Says.ex (S' := [(6, I v_r7), (5, I v_r5)]) (O' := []) (says_pick [0, 8] [] rfl rfl) ?_
      refine ex_kx (hK6 _ _ ?_)
      refine cw_seq fun K7 hK7 => ?_
      refine cw_seq fun K8 hK8 => ?_
      refine cw_region ?_
      refine nx_o (op_move (.tmp 0 rfl)) rfl ?_
      refine nx_o (op_move (.tmp 2 rfl)) rfl ?_
      refine nx_o (op_gtr (.tmp 1 rfl) (.tmp 0 rfl)) rfl ?_
      refine nx_nil ?_
      refine Says.ex (S' := [(29, B (decide (v_r7 > v_r5))), (6, I v_r7), (5, I v_r5)]) (O' := []) (says_pick [0, 3, 4] [] rfl rfl) ?_
      refine ex_kx (hK8 _ _ ?_)
      refine cw_cond (b := (decide (v_r7 > v_r5))) (.tmp 0 rfl) (fun hc => ?_) (fun hc => ?_)
      · have h := ite_t hc h
        refine cw_region ?_
        refine nx_o (op_move (.tmp 1 rfl)) rfl ?_
        refine nx_k [0, 1, 2] (op_assign (.tmp 0 rfl)) rfl rfl ?_
        show Nx _ _ _ _ _ [(5, I v_r7), (30, I v_r7), (29, B (decide (v_r7 > v_r5))), (6, I v_r7)] []
        refine nx_nil ?_
        refine Says.ex (S' := [(5, I v_r7)]) (O' := []) (says_pick [0] [] rfl rfl) ?_
        refine ex_kx (hK7 _ _ ?_)
        refine cw_seq fun K9 hK9 => ?_
        refine cw_region ?_
        refine nx_o (op_move (.tmp 0 rfl)) rfl ?_
        refine nx_o (op_add (.tmp 0 rfl) (Can.int _ _ _)) rfl ?_
        refine nx_o (op_assign (.tmp 0 rfl)) rfl ?_
        refine nx_nil ?_
        refine Says.ex (S' := [(4, I (w64 (v_r7 + 1)))]) (O' := []) (says_pick [0] [] rfl rfl) ?_
        refine ex_kx (hK9 _ _ ?_)
        refine cw_ret ?_
        cases h
        exact ex_done (.inl rfl) rfl (fun a w G V hs _ hS => res1 rfl (.tmp 0 rfl) a w G V hS)
      · have h := ite_f hc h
        refine cw_skip ?_
        refine ex_kx (hK7 _ _ ?_)
        refine cw_seq fun K10 hK10 => ?_
        refine cw_region ?_
        refine nx_o (op_move (.tmp 2 rfl)) rfl ?_
        refine nx_o (op_add (.tmp 0 rfl) (Can.int _ _ _)) rfl ?_
        refine nx_o (op_assign (.tmp 0 rfl)) rfl ?_
        refine nx_nil ?_
        refine Says.ex (S' := [(4, I (w64 (v_r5 + 1)))]) (O' := []) (says_pick [0] [] rfl rfl) ?_
        refine ex_kx (hK10 _ _ ?_)
        refine cw_ret ?_
        cases h
        exact ex_done (.inl rfl) rfl (fun a w G V hs _ hS => res1 rfl (.tmp 0 rfl) a w G V hS)

theorem f69_fn (N : Nat) (v_a1 : List Node) (v_a2 : Int) (r : Int × Int) (h : orchref1_Tree N v_a1 v_a2 = some r) : Fn Go.Proofs.Tryd.prog 69 [SL 6 cNode v_a1, I v_a2] [] (.tup [I r.1, I r.2]) [] := by
  unfold orchref1_Tree at h
  refine fn_intro [] fun69 rfl rfl (Nat.le_of_ble_eq_true rfl) rfl rfl (fun w G V => ?_)
  show Cw _ _ _ _ [(0, SL 6 cNode v_a1), (1, I v_a2)] []
  refine cw_seq fun K1 hK1 => ?_
  refine cw_region ?_
  refine nx_o (op_assign (Can.int _ _ _)) rfl ?_
  refine nx_o (op_assign (Can.int _ _ _)) rfl ?_
  refine nx_nil ?_
  refine Says.ex (S' := [(0, SL 6 cNode v_a1), (1, I v_a2)]) (O' := []) (says_pick [2, 3] [] rfl rfl) ?_
  refine ex_kx (hK1 _ _ ?_)
  refine cw_seq fun K2 hK2 => ?_
  refine cw_seq fun K3 hK3 => ?_
  refine cw_region ?_
  refine nx_o (op_move (.tmp 0 rfl)) rfl ?_
  refine nx_o (op_len (.tmp 0 rfl) u29) rfl ?_
  refine nx_o (op_gtr (.tmp 0 rfl) (Can.int _ _ _)) rfl ?_
  refine nx_nil ?_
  refine Says.ex (S' := [(15, B (decide ((v_a1.length : Int) > 63))), (0, SL 6 cNode v_a1), (1, I v_a2)]) (O' := []) (says_pick [0, 3, 4] [] rfl rfl) ?_
  refine ex_kx (hK3 _ _ ?_)
  refine cw_cond (b := (decide ((v_a1.length : Int) > 63))) (.tmp 0 rfl) (fun hc => ?_) (fun hc => ?_)
  · have h := ite_t hc h
    refine cw_seq fun K4 hK4 => ?_
    refine cw_region ?_
    refine nx_o (op_assign (Can.int _ _ _)) rfl ?_
    refine nx_o (op_assign (Can.int _ _ _)) rfl ?_
    refine nx_nil ?_
    refine Says.ex (S' := [(5, I 4), (4, I 0)]) (O' := []) (says_pick [0, 1] [] rfl rfl) ?_
    refine ex_kx (hK4 _ _ ?_)
    refine cw_ret ?_
    refine ex_tr ?_
    cases h
    refine Says.ex (S' := [(4, I 0), (5, I 4)]) (O' := []) (says_pick [1, 0] [] rfl rfl) ?_
    exact ex_done (.inl rfl) rfl (fun a w G V hs _ hS => resM rfl (.tmp (.tmp 0 rfl) (.tmp (.tmp 1 rfl) .nil)) a w G V hs hS)
  · have h := ite_f hc h
    refine cw_skip ?_
    refine ex_kx (hK2 _ _ ?_)
    refine cw_seq fun K5 hK5 => ?_
    refine cw_seq fun K6 hK6 => ?_
    refine cw_region ?_
    refine nx_o (op_move (.tmp 1 rfl)) rfl ?_
    refine nx_o (op_len (.tmp 0 rfl) u29) rfl ?_
    refine nx_o (op_eql (.tmp 0 rfl) (Can.int _ _ _)) rfl ?_
    refine nx_nil ?_
    refine Says.ex (S' := [(18, B ((v_a1.length : Int) == 0)), (0, SL 6 cNode v_a1), (1, I v_a2)]) (O' := []) (says_pick [0, 4, 5] [] rfl rfl) ?_
    refine ex_kx (hK6 _ _ ?_)
    refine cw_cond (b := ((v_a1.length : Int) == 0)) (.tmp 0 rfl) (fun hc => ?_) (fun hc => ?_)
    · have h := ite_t hc h
      refine cw_seq fun K7 hK7 => ?_
      refine cw_region ?_
      refine nx_o (op_assign (Can.int _ _ _)) rfl ?_
      refine nx_o (op_assign (Can.int _ _ _)) rfl ?_
      refine nx_nil ?_
      refine Says.ex (S' := [(5, I 5), (4, I 0)]) (O' := []) (says_pick [0, 1] [] rfl rfl) ?_
      refine ex_kx (hK7 _ _ ?_)
      refine cw_ret ?_
      refine ex_tr ?_
      cases h
      refine Says.ex (S' := [(4, I 0), (5, I 5)]) (O' := []) (says_pick [1, 0] [] rfl rfl) ?_
      exact ex_done (.inl rfl) rfl (fun a w G V hs _ hS => resM rfl (.tmp (.tmp 0 rfl) (.tmp (.tmp 1 rfl) .nil)) a w G V hs hS)
    · have h := ite_f hc h
      refine cw_skip ?_
      refine ex_kx (hK5 _ _ ?_)
      refine cw_seq fun K8 hK8 => ?_
      refine cw_seq fun K9 hK9 => ?_
      refine cw_region ?_
      refine nx_o (op_move (.tmp 2 rfl)) rfl ?_
      refine nx_o (op_lss (.tmp 0 rfl) (Can.int _ _ _)) rfl ?_
      refine nx_o (op_move (.tmp 0 rfl)) rfl ?_
      refine nx_g (opy_guard (cc := (!(decide (v_a2 < 0)))) (.plain 0 rfl) rfl rfl (fun hg => (op_move (.tmp 5 rfl)))) rfl ?_
      refine nx_g (opy_guard (cc := (!(decide (v_a2 < 0)))) (.plain 1 rfl) rfl rfl (fun hg => (op_gtr (.cd 0 rfl hg) (Can.int _ _ _)))) rfl ?_
      refine nx_o (op_or (.tmp 2 rfl) (fun hp => (.cd 0 rfl (not_t hp)))) rfl ?_
      refine nx_nil ?_
      refine Says.ex (S' := [(24, B ((decide (v_a2 < 0)) || (decide (v_a2 > 8)))), (0, SL 6 cNode v_a1), (1, I v_a2)]) (O' := []) (says_pick [0, 7, 8] [] rfl rfl) ?_
      refine ex_kx (hK9 _ _ ?_)
      refine cw_cond (b := ((decide (v_a2 < 0)) || (decide (v_a2 > 8)))) (.tmp 0 rfl) (fun hc => ?_) (fun hc => ?_)
      · have h := ite_t hc h
        refine cw_seq fun K10 hK10 => ?_
        refine cw_region ?_
        refine nx_o (op_assign (Can.int _ _ _)) rfl ?_
        refine nx_o (op_assign (Can.int _ _ _)) rfl ?_
        refine nx_nil ?_
        refine Says.ex (S' := [(5, I 1), (4, I 0)]) (O' := []) (says_pick [0, 1] [] rfl rfl) ?_
        refine ex_kx (hK10 _ _ ?_)
        refine cw_ret ?_
        refine ex_tr ?_
        cases h
        refine Says.ex (S' := [(4, I 0), (5, I 1)]) (O' := []) (says_pick [1, 0] [] rfl rfl) ?_
        exact ex_done (.inl rfl) rfl (fun a w G V hs _ hS => resM rfl (.tmp (.tmp 0 rfl) (.tmp (.tmp 1 rfl) .nil)) a w G V hs hS)
      · have h := ite_f hc h
        refine cw_skip ?_
        refine ex_kx (hK8 _ _ ?_)
        refine cw_join (fun S O => orchref1_Tree_j1 N v_a1 = some r ∧ S = [(0, SL 6 cNode v_a1)] ∧ O = []) ?_ (fun K71 hK71 => ?_)
        · rintro S O ⟨h, rfl, rfl⟩
          unfold orchref1_Tree_j1 at h
          refine cw_join (fun S O => orchref1_Tree_j2 N v_a1 = some r ∧ S = [(0, SL 6 cNode v_a1)] ∧ O = []) ?_ (fun K513 hK513 => ?_)
          · rintro S O ⟨h, rfl, rfl⟩
            unfold orchref1_Tree_j2 at h
            refine cw_seq fun K514 hK514 => ?_
            refine cw_seq fun K515 hK515 => ?_
            refine cw_region ?_
            refine nx_o (op_move (.tmp 0 rfl)) rfl ?_
            obtain ⟨v_r250, hv_r250, h⟩ := bnd h
            refine nx_o (op_call0 (show Fn Go.Proofs.Tryd.prog 123 [SL 6 cNode v_a1, I 0] [] (I v_r250) [] from (f123_fn N v_a1 0 _ hv_r250)) c123 (.cons (.tmp 0 rfl) (.cons (Can.int _ _ _) .nil))) rfl ?_
            refine nx_o (op_gtr (.tmp 0 rfl) (Can.int _ _ _)) rfl ?_
            refine nx_nil ?_
            refine Says.ex (S' := [(157, B (decide (v_r250 > 10)))]) (O' := []) (says_pick [0] [] rfl rfl) ?_
            refine ex_kx (hK515 _ _ ?_)
            refine cw_cond (b := (decide (v_r250 > 10))) (.tmp 0 rfl) (fun hc => ?_) (fun hc => ?_)
            · have h := ite_t hc h
              refine cw_seq fun K516 hK516 => ?_
              refine cw_region ?_
              refine nx_o (op_assign (Can.int _ _ _)) rfl ?_
              refine nx_o (op_assign (Can.int _ _ _)) rfl ?_
              refine nx_nil ?_
              refine Says.ex (S' := [(5, I 4), (4, I 0)]) (O' := []) (says_pick [0, 1] [] rfl rfl) ?_
              refine ex_kx (hK516 _ _ ?_)
              refine cw_ret ?_
              refine ex_tr ?_
              cases h
              refine Says.ex (S' := [(4, I 0), (5, I 4)]) (O' := []) (says_pick [1, 0] [] rfl rfl) ?_
              exact ex_done (.inl rfl) rfl (fun a w G V hs _ hS => resM rfl (.tmp (.tmp 0 rfl) (.tmp (.tmp 1 rfl) .nil)) a w G V hs hS)
            · have h := ite_f hc h
              refine cw_skip ?_
              refine ex_kx (hK514 _ _ ?_)
              refine cw_seq fun K517 hK517 => ?_
              refine cw_region ?_
              refine nx_o (op_assign (Can.int _ _ _)) rfl ?_
              refine nx_o (op_assign (Can.int _ _ _)) rfl ?_
              refine nx_nil ?_
              refine Says.ex (S' := [(5, I 0), (4, I 0)]) (O' := []) (says_pick [0, 1] [] rfl rfl) ?_
              refine ex_kx (hK517 _ _ ?_)
              refine cw_ret ?_
              cases h
              refine Says.ex (S' := [(4, I 0), (5, I 0)]) (O' := []) (says_pick [1, 0] [] rfl rfl) ?_
              exact ex_done (.inl rfl) rfl (fun a w G V hs _ hS => resM rfl (.tmp (.tmp 0 rfl) (.tmp (.tmp 1 rfl) .nil)) a w G V hs hS)
          ·
            refine cw_seq fun K518 hK518 => ?_
            refine cw_region ?_
            refine nx_o (op_assign (Can.int _ _ _)) rfl ?_
            refine nx_nil ?_
            refine ex_kx (hK518 _ _ ?_)
            refine cw_block ?_
            refine Says.cw (S' := [(0, SL 6 cNode v_a1), (10, I 1)]) (O' := []) (says_pick [1, 0] [] rfl rfl) ?_
            refine cw_loopJ (fun n S O => ∃ (v_t408 : Int), orchref1_Tree_l1 N v_a1 n v_t408 = some r ∧ S = [(0, SL 6 cNode v_a1), (10, I v_t408)] ∧ O = []) ?_ ?_ N ⟨1, h, rfl, rfl⟩
            · rintro S O ⟨v_t408, h, -, -⟩
              simp [orchref1_Tree_l1] at h
            · rintro n_1 S O ⟨v_t408, h, rfl, rfl⟩ K811 hK811
              rw [orchref1_Tree_l1] at h
              refine cw_seq fun K812 hK812 => ?_
              refine cw_seq fun K813 hK813 => ?_
              refine cw_region ?_
              refine nx_o (op_move (.tmp 1 rfl)) rfl ?_
              refine nx_o (op_move (.tmp 1 rfl)) rfl ?_
              refine nx_o (op_len (.tmp 0 rfl) u29) rfl ?_
              refine nx_o (op_lss (.tmp 2 rfl) (.tmp 0 rfl)) rfl ?_
              refine nx_nil ?_
              refine Says.ex (S' := [(119, B (decide (v_t408 < (v_a1.length : Int)))), (0, SL 6 cNode v_a1), (10, I v_t408)]) (O' := []) (says_pick [0, 4, 5] [] rfl rfl) ?_
              refine ex_kx (hK813 _ _ ?_)
              refine cw_cond (b := (decide (v_t408 < (v_a1.length : Int)))) (.tmp 0 rfl) (fun hc => ?_) (fun hc => ?_)
              · have h := ite_t hc h
                refine cw_skip ?_
                refine ex_kx (hK812 _ _ ?_)
                refine cw_join (fun S O => orchref1_Tree_j3 N (orchref1_Tree_l1 N v_a1 n_1) v_t408 = some r ∧ S = [(0, SL 6 cNode v_a1), (10, I v_t408)] ∧ O = []) ?_ (fun K885 hK885 => ?_)
                · rintro S O ⟨h, rfl, rfl⟩
                  unfold orchref1_Tree_j3 at h
                  refine cw_region ?_
                  refine nx_o (op_move (.tmp 1 rfl)) rfl ?_
                  refine nx_o (op_add (.tmp 0 rfl) (Can.int _ _ _)) rfl ?_
                  refine nx_k [0, 1, 2] (op_assign (.tmp 0 rfl)) rfl rfl ?_
                  show Nx _ _ _ _ _ [(10, I (w64 (v_t408 + 1))), (121, I (w64 (v_t408 + 1))), (120, I v_t408), (0, SL 6 cNode v_a1)] []
                  refine nx_nil ?_
                  refine Says.ex (S' := [(10, I (w64 (v_t408 + 1))), (0, SL 6 cNode v_a1)]) (O' := []) (says_pick [0, 3] [] rfl rfl) ?_
                  refine ex_kx ?_
                  refine Says.kx (S' := [(0, SL 6 cNode v_a1), (10, I (w64 (v_t408 + 1)))]) (O' := []) (says_pick [1, 0] [] rfl rfl) ?_
                  exact hK811 _ _ ⟨w64 (v_t408 + 1), h, rfl, rfl⟩
                ·
                  refine cw_block ?_
                  refine cw_seq fun K886 hK886 => ?_
                  refine cw_region ?_
                  refine nx_o (op_assign (Can.int _ _ _)) rfl ?_
                  refine nx_nil ?_
                  refine Says.ex (S' := [(11, I 0), (0, SL 6 cNode v_a1), (10, I v_t408)]) (O' := []) (says_pick [0, 2, 3] [] rfl rfl) ?_
                  refine ex_kx (hK886 _ _ ?_)
                  refine cw_join (fun S O => ∃ (v_t467 : Int), orchref1_Tree_j4 N v_t408 (orchref1_Tree_l1 N v_a1 n_1) v_t467 = some r ∧ S = [(0, SL 6 cNode v_a1), (10, I v_t408), (11, I v_t467)] ∧ O = []) ?_ (fun K920 hK920 => ?_)
                  · rintro S O ⟨v_t467, h, rfl, rfl⟩
                    unfold orchref1_Tree_j4 at h
                    refine cw_seq fun K921 hK921 => ?_
                    refine cw_region ?_
                    refine nx_o (op_move (.tmp 2 rfl)) rfl ?_
                    refine nx_o (op_neq (.tmp 0 rfl) (Can.int _ _ _)) rfl ?_
                    refine nx_nil ?_
                    refine Says.ex (S' := [(153, B (v_t467 != 1)), (0, SL 6 cNode v_a1), (10, I v_t408)]) (O' := []) (says_pick [0, 2, 3] [] rfl rfl) ?_
                    refine ex_kx (hK921 _ _ ?_)
                    refine cw_cond (b := (v_t467 != 1)) (.tmp 0 rfl) (fun hc => ?_) (fun hc => ?_)
                    · have h := ite_t hc h
                      refine cw_seq fun K922 hK922 => ?_
                      refine cw_region ?_
                      refine nx_o (op_move (.tmp 2 rfl)) rfl ?_
                      refine nx_o (op_assign (.tmp 0 rfl)) rfl ?_
                      refine nx_o (op_assign (Can.int _ _ _)) rfl ?_
                      refine nx_nil ?_
                      refine Says.ex (S' := [(5, I 7), (4, I v_t408)]) (O' := []) (says_pick [0, 1] [] rfl rfl) ?_
                      refine ex_kx (hK922 _ _ ?_)
                      refine cw_ret ?_
                      refine ex_br ?_
                      refine ex_tr ?_
                      refine ex_tr ?_
                      refine ex_br ?_
                      refine ex_tr ?_
                      cases h
                      refine Says.ex (S' := [(4, I v_t408), (5, I 7)]) (O' := []) (says_pick [1, 0] [] rfl rfl) ?_
                      exact ex_done (.inl rfl) rfl (fun a w G V hs _ hS => resM rfl (.tmp (.tmp 0 rfl) (.tmp (.tmp 1 rfl) .nil)) a w G V hs hS)
                    · have h := ite_f hc h
                      refine cw_skip ?_
                      refine ex_bn ?_
                      refine ex_kx ?_
                      refine Says.kx (S' := [(0, SL 6 cNode v_a1), (10, I v_t408)]) (O' := []) (says_pick [1, 2] [] rfl rfl) ?_
                      exact hK885 _ _ ⟨h, rfl, rfl⟩
                  ·
                    refine cw_seq fun K923 hK923 => ?_
                    refine cw_region ?_
                    refine nx_o (op_assign (Can.int _ _ _)) rfl ?_
                    refine nx_nil ?_
                    refine ex_kx (hK923 _ _ ?_)
                    refine cw_block ?_
                    refine Says.cw (S' := [(0, SL 6 cNode v_a1), (10, I v_t408), (11, I 0), (12, I 0)]) (O' := []) (says_pick [2, 3, 1, 0] [] rfl rfl) ?_
                    refine cw_loopJ (fun n S O => ∃ (v_t480 : Int) (v_t481 : Int), orchref1_Tree_l2 N v_a1 v_t408 (orchref1_Tree_l1 N v_a1 n_1) n v_t480 v_t481 = some r ∧ S = [(0, SL 6 cNode v_a1), (10, I v_t408), (11, I v_t480), (12, I v_t481)] ∧ O = []) ?_ ?_ N ⟨0, 0, h, rfl, rfl⟩
                    · rintro S O ⟨v_t480, v_t481, h, -, -⟩
                      simp [orchref1_Tree_l2] at h
                    · rintro n_2 S O ⟨v_t480, v_t481, h, rfl, rfl⟩ K944 hK944
                      rw [orchref1_Tree_l2] at h
                      refine cw_seq fun K945 hK945 => ?_
                      refine cw_seq fun K946 hK946 => ?_
                      refine cw_region ?_
                      refine nx_o (op_move (.tmp 3 rfl)) rfl ?_
                      refine nx_o (op_move (.tmp 1 rfl)) rfl ?_
                      refine nx_o (op_len (.tmp 0 rfl) u29) rfl ?_
                      refine nx_o (op_lss (.tmp 2 rfl) (.tmp 0 rfl)) rfl ?_
                      refine nx_nil ?_
                      refine Says.ex (S' := [(125, B (decide (v_t481 < (v_a1.length : Int)))), (0, SL 6 cNode v_a1), (10, I v_t408), (11, I v_t480), (12, I v_t481)]) (O' := []) (says_pick [0, 4, 5, 6, 7] [] rfl rfl) ?_
                      refine ex_kx (hK946 _ _ ?_)
                      refine cw_cond (b := (decide (v_t481 < (v_a1.length : Int)))) (.tmp 0 rfl) (fun hc => ?_) (fun hc => ?_)
                      · have h := ite_t hc h
                        refine cw_skip ?_
                        refine ex_kx (hK945 _ _ ?_)
                        refine cw_seq fun K947 hK947 => ?_
                        refine cw_block ?_
                        refine cw_seq fun K948 hK948 => ?_
                        refine cw_seq fun K949 hK949 => ?_
                        refine cw_region ?_
                        refine nx_o (op_move (.tmp 1 rfl)) rfl ?_
                        refine nx_o (op_move (.tmp 5 rfl)) rfl ?_
                        obtain ⟨v_y482, hv_y482, h⟩ := bnd h
                        refine nx_o (op_indexX hv_y482 (.tmp 1 rfl) (.tmp 0 rfl) u29 s28) rfl ?_
                        refine nx_o (op_field (.tmp 0 rfl) o28_0) rfl ?_
                        refine nx_o (op_load1 (.tmp 0 rfl) a3) rfl ?_
                        refine nx_o (op_eql (.tmp 0 rfl) (Can.int _ _ _)) rfl ?_
                        refine nx_nil ?_
                        refine Says.ex (S' := [(133, B (v_y482.feature == (-1))), (0, SL 6 cNode v_a1), (10, I v_t408), (11, I v_t480), (12, I v_t481)]) (O' := []) (says_pick [0, 7, 8, 9, 10] [] rfl rfl) ?_
                        refine ex_kx (hK949 _ _ ?_)
                        refine cw_cond (b := (v_y482.feature == (-1))) (.tmp 0 rfl) (fun hc => ?_) (fun hc => ?_)
                        · have h := ite_t hc h
                          refine cw_exit ?_
                          refine ex_te ?_
                          refine ex_be ?_
                          refine ex_kx (hK947 _ _ ?_)
                          refine cw_region ?_
                          refine nx_o (op_move (.tmp 4 rfl)) rfl ?_
                          refine nx_o (op_add (.tmp 0 rfl) (Can.int _ _ _)) rfl ?_
                          refine nx_k [0, 1, 2, 3, 4, 5] (op_assign (.tmp 0 rfl)) rfl rfl ?_
                          show Nx _ _ _ _ _ [(12, I (w64 (v_t481 + 1))), (127, I (w64 (v_t481 + 1))), (126, I v_t481), (133, B (v_y482.feature == (-1))), (0, SL 6 cNode v_a1), (10, I v_t408), (11, I v_t480)] []
                          refine nx_nil ?_
                          refine Says.ex (S' := [(12, I (w64 (v_t481 + 1))), (0, SL 6 cNode v_a1), (10, I v_t408), (11, I v_t480)]) (O' := []) (says_pick [0, 4, 5, 6] [] rfl rfl) ?_
                          refine ex_kx ?_
                          refine Says.kx (S' := [(0, SL 6 cNode v_a1), (10, I v_t408), (11, I v_t480), (12, I (w64 (v_t481 + 1)))]) (O' := []) (says_pick [1, 2, 3, 0] [] rfl rfl) ?_
                          exact hK944 _ _ ⟨v_t480, w64 (v_t481 + 1), h, rfl, rfl⟩
                        · have h := ite_f hc h
                          refine cw_skip ?_
                          refine ex_kx (hK948 _ _ ?_)
                          refine cw_join (fun S O => ∃ (v_t484 : Int), orchref1_Tree_j5 N v_a1 v_t481 v_t408 (orchref1_Tree_l2 N v_a1 v_t408 (orchref1_Tree_l1 N v_a1 n_1) n_2) v_t484 = some r ∧ S = [(0, SL 6 cNode v_a1), (10, I v_t408), (11, I v_t484), (12, I v_t481)] ∧ O = []) ?_ (fun K951 hK951 => ?_)
                          · rintro S O ⟨v_t484, h, rfl, rfl⟩
                            unfold orchref1_Tree_j5 at h
                            refine cw_seq fun K952 hK952 => ?_
                            refine cw_region ?_
                            refine nx_o (op_move (.tmp 0 rfl)) rfl ?_
                            refine nx_o (op_move (.tmp 4 rfl)) rfl ?_
                            obtain ⟨v_y485, hv_y485, h⟩ := bnd h
                            refine nx_o (op_indexX hv_y485 (.tmp 1 rfl) (.tmp 0 rfl) u29 s28) rfl ?_
                            refine nx_o (op_field (.tmp 0 rfl) o28_3) rfl ?_
                            refine nx_o (op_load1 (.tmp 0 rfl) a3) rfl ?_
                            refine nx_o (op_move (.tmp 6 rfl)) rfl ?_
                            refine nx_o (op_eql (.tmp 1 rfl) (.tmp 0 rfl)) rfl ?_
                            refine nx_nil ?_
                            refine Says.ex (S' := [(149, B (v_y485.right == v_t408)), (0, SL 6 cNode v_a1), (10, I v_t408), (11, I v_t484), (12, I v_t481)]) (O' := []) (says_pick [0, 7, 8, 9, 10] [] rfl rfl) ?_
                            refine ex_kx (hK952 _ _ ?_)
                            refine cw_cond (b := (v_y485.right == v_t408)) (.tmp 0 rfl) (fun hc => ?_) (fun hc => ?_)
                            · have h := ite_t hc h
                              refine cw_region ?_
                              refine nx_o (op_move (.tmp 3 rfl)) rfl ?_
                              refine nx_o (op_add (.tmp 0 rfl) (Can.int _ _ _)) rfl ?_
                              refine nx_k [0, 1, 2, 3, 4, 6] (op_assign (.tmp 0 rfl)) rfl rfl ?_
                              show Nx _ _ _ _ _ [(11, I (w64 (v_t484 + 1))), (151, I (w64 (v_t484 + 1))), (150, I v_t484), (149, B (v_y485.right == v_t408)), (0, SL 6 cNode v_a1), (10, I v_t408), (12, I v_t481)] []
                              refine nx_nil ?_
                              refine Says.ex (S' := [(11, I (w64 (v_t484 + 1))), (0, SL 6 cNode v_a1), (10, I v_t408), (12, I v_t481)]) (O' := []) (says_pick [0, 4, 5, 6] [] rfl rfl) ?_
                              refine ex_bn ?_
                              refine ex_kx (hK947 _ _ ?_)
                              refine cw_region ?_
                              refine nx_o (op_move (.tmp 3 rfl)) rfl ?_
                              refine nx_o (op_add (.tmp 0 rfl) (Can.int _ _ _)) rfl ?_
                              refine nx_k [0, 1, 2, 3, 4] (op_assign (.tmp 0 rfl)) rfl rfl ?_
                              show Nx _ _ _ _ _ [(12, I (w64 (v_t481 + 1))), (127, I (w64 (v_t481 + 1))), (126, I v_t481), (11, I (w64 (v_t484 + 1))), (0, SL 6 cNode v_a1), (10, I v_t408)] []
                              refine nx_nil ?_
                              refine Says.ex (S' := [(12, I (w64 (v_t481 + 1))), (11, I (w64 (v_t484 + 1))), (0, SL 6 cNode v_a1), (10, I v_t408)]) (O' := []) (says_pick [0, 3, 4, 5] [] rfl rfl) ?_
                              refine ex_kx ?_
                              refine Says.kx (S' := [(0, SL 6 cNode v_a1), (10, I v_t408), (11, I (w64 (v_t484 + 1))), (12, I (w64 (v_t481 + 1)))]) (O' := []) (says_pick [2, 3, 1, 0] [] rfl rfl) ?_
                              exact hK944 _ _ ⟨w64 (v_t484 + 1), w64 (v_t481 + 1), h, rfl, rfl⟩
                            · have h := ite_f hc h
                              refine cw_skip ?_
                              refine ex_bn ?_
                              refine ex_kx (hK947 _ _ ?_)
                              refine cw_region ?_
                              refine nx_o (op_move (.tmp 4 rfl)) rfl ?_
                              refine nx_o (op_add (.tmp 0 rfl) (Can.int _ _ _)) rfl ?_
                              refine nx_k [0, 1, 2, 3, 4, 5] (op_assign (.tmp 0 rfl)) rfl rfl ?_
                              show Nx _ _ _ _ _ [(12, I (w64 (v_t481 + 1))), (127, I (w64 (v_t481 + 1))), (126, I v_t481), (149, B (v_y485.right == v_t408)), (0, SL 6 cNode v_a1), (10, I v_t408), (11, I v_t484)] []
                              refine nx_nil ?_
                              refine Says.ex (S' := [(12, I (w64 (v_t481 + 1))), (0, SL 6 cNode v_a1), (10, I v_t408), (11, I v_t484)]) (O' := []) (says_pick [0, 4, 5, 6] [] rfl rfl) ?_
                              refine ex_kx ?_
                              refine Says.kx (S' := [(0, SL 6 cNode v_a1), (10, I v_t408), (11, I v_t484), (12, I (w64 (v_t481 + 1)))]) (O' := []) (says_pick [1, 2, 3, 0] [] rfl rfl) ?_
                              exact hK944 _ _ ⟨v_t484, w64 (v_t481 + 1), h, rfl, rfl⟩
                          ·
                            refine cw_seq fun K953 hK953 => ?_
                            refine cw_region ?_
                            refine nx_o (op_move (.tmp 1 rfl)) rfl ?_
                            refine nx_o (op_move (.tmp 5 rfl)) rfl ?_
                            obtain ⟨v_y486, hv_y486, h⟩ := bnd h
                            refine nx_o (op_indexX hv_y486 (.tmp 1 rfl) (.tmp 0 rfl) u29 s28) rfl ?_
                            refine nx_o (op_field (.tmp 0 rfl) o28_2) rfl ?_
                            refine nx_o (op_load1 (.tmp 0 rfl) a3) rfl ?_
                            refine nx_o (op_move (.tmp 7 rfl)) rfl ?_
                            refine nx_o (op_eql (.tmp 1 rfl) (.tmp 0 rfl)) rfl ?_
                            refine nx_nil ?_
                            refine Says.ex (S' := [(140, B (v_y486.left == v_t408)), (0, SL 6 cNode v_a1), (10, I v_t408), (11, I v_t480), (12, I v_t481)]) (O' := []) (says_pick [0, 8, 9, 10, 11] [] rfl rfl) ?_
                            refine ex_kx (hK953 _ _ ?_)
                            refine cw_cond (b := (v_y486.left == v_t408)) (.tmp 0 rfl) (fun hc => ?_) (fun hc => ?_)
                            · have h := ite_t hc h
                              refine cw_region ?_
                              refine nx_o (op_move (.tmp 3 rfl)) rfl ?_
                              refine nx_o (op_add (.tmp 0 rfl) (Can.int _ _ _)) rfl ?_
                              refine nx_k [0, 1, 2, 3, 4, 6] (op_assign (.tmp 0 rfl)) rfl rfl ?_
                              show Nx _ _ _ _ _ [(11, I (w64 (v_t480 + 1))), (142, I (w64 (v_t480 + 1))), (141, I v_t480), (140, B (v_y486.left == v_t408)), (0, SL 6 cNode v_a1), (10, I v_t408), (12, I v_t481)] []
                              refine nx_nil ?_
                              refine Says.ex (S' := [(11, I (w64 (v_t480 + 1))), (0, SL 6 cNode v_a1), (10, I v_t408), (12, I v_t481)]) (O' := []) (says_pick [0, 4, 5, 6] [] rfl rfl) ?_
                              refine ex_kx ?_
                              refine Says.kx (S' := [(0, SL 6 cNode v_a1), (10, I v_t408), (11, I (w64 (v_t480 + 1))), (12, I v_t481)]) (O' := []) (says_pick [1, 2, 0, 3] [] rfl rfl) ?_
                              exact hK951 _ _ ⟨w64 (v_t480 + 1), h, rfl, rfl⟩
                            · have h := ite_f hc h
                              refine cw_skip ?_
                              refine ex_kx ?_
                              refine Says.kx (S' := [(0, SL 6 cNode v_a1), (10, I v_t408), (11, I v_t480), (12, I v_t481)]) (O' := []) (says_pick [1, 2, 3, 4] [] rfl rfl) ?_
                              exact hK951 _ _ ⟨v_t480, h, rfl, rfl⟩
                      · have h := ite_f hc h
                        refine cw_exit ?_
                        refine ex_te ?_
                        refine ex_te ?_
                        refine ex_be ?_
                        refine ex_kx ?_
                        refine Says.kx (S' := [(0, SL 6 cNode v_a1), (10, I v_t408), (11, I v_t480)]) (O' := []) (says_pick [1, 2, 3] [] rfl rfl) ?_
                        exact hK920 _ _ ⟨v_t480, h, rfl, rfl⟩
              · have h := ite_f hc h
                refine cw_exit ?_
                refine ex_te ?_
                refine ex_te ?_
                refine ex_be ?_
                refine ex_kx ?_
                refine Says.kx (S' := [(0, SL 6 cNode v_a1)]) (O' := []) (says_pick [1] [] rfl rfl) ?_
                exact hK513 _ _ ⟨h, rfl, rfl⟩
        ·
          refine cw_seq fun K954 hK954 => ?_
          refine cw_region ?_
          refine nx_o (op_assign (Can.int _ _ _)) rfl ?_
          refine nx_nil ?_
          refine Says.ex (S' := [(6, I 0), (0, SL 6 cNode v_a1), (1, I v_a2)]) (O' := []) (says_pick [0, 2, 3] [] rfl rfl) ?_
          refine ex_kx (hK954 _ _ ?_)
          refine cw_block ?_
          refine Says.cw (S' := [(0, SL 6 cNode v_a1), (1, I v_a2), (6, I 0)]) (O' := []) (says_pick [1, 2, 0] [] rfl rfl) ?_
          refine cw_loopJ (fun n S O => ∃ (v_t494 : Int), orchref1_Tree_l3 N v_a1 v_a2 n v_t494 = some r ∧ S = [(0, SL 6 cNode v_a1), (1, I v_a2), (6, I v_t494)] ∧ O = []) ?_ ?_ N ⟨0, h, rfl, rfl⟩
          · rintro S O ⟨v_t494, h, -, -⟩
            simp [orchref1_Tree_l3] at h
          · rintro n_3 S O ⟨v_t494, h, rfl, rfl⟩ K993 hK993
            rw [orchref1_Tree_l3] at h
            refine cw_seq fun K994 hK994 => ?_
            refine cw_seq fun K995 hK995 => ?_
            refine cw_region ?_
            refine nx_o (op_move (.tmp 2 rfl)) rfl ?_
            refine nx_o (op_move (.tmp 1 rfl)) rfl ?_
            refine nx_o (op_len (.tmp 0 rfl) u29) rfl ?_
            refine nx_o (op_lss (.tmp 2 rfl) (.tmp 0 rfl)) rfl ?_
            refine nx_nil ?_
            refine Says.ex (S' := [(28, B (decide (v_t494 < (v_a1.length : Int)))), (0, SL 6 cNode v_a1), (1, I v_a2), (6, I v_t494)]) (O' := []) (says_pick [0, 4, 5, 6] [] rfl rfl) ?_
            refine ex_kx (hK995 _ _ ?_)
            refine cw_cond (b := (decide (v_t494 < (v_a1.length : Int)))) (.tmp 0 rfl) (fun hc => ?_) (fun hc => ?_)
            · have h := ite_t hc h
              refine cw_skip ?_
              refine ex_kx (hK994 _ _ ?_)
              refine cw_seq fun K996 hK996 => ?_
              refine cw_block ?_
              refine cw_seq fun K997 hK997 => ?_
              refine cw_region ?_
              refine nx_o (op_move (.tmp 1 rfl)) rfl ?_
              refine nx_o (op_move (.tmp 4 rfl)) rfl ?_
              obtain ⟨v_y495, hv_y495, h⟩ := bnd h
              refine nx_o (op_indexX hv_y495 (.tmp 1 rfl) (.tmp 0 rfl) u29 s28) rfl ?_
              refine nx_o (op_loadA (cNode v_y495) (.tmp 0 rfl) a28 s28 rfl) rfl ?_
              refine nx_op (op_alloc 106 (cNode (Node.mk 0 0 0 0 false 0)) za28 zNode rfl) rfl ?_
              show Nx _ _ _ _ _ [(7, .ref 106), (34, .agg (cNode v_y495)), (33, .ptr (cNode v_y495)), (32, I v_t494), (31, SL 6 cNode v_a1), (28, B (decide (v_t494 < (v_a1.length : Int)))), (0, SL 6 cNode v_a1), (1, I v_a2), (6, I v_t494)] [(106, .var 28 [I 0, I 0, I 0, I 0, B false, I 0])]
              refine nx_o0 (op_storeVA (its := (cNode v_y495)) (.tmp 0 rfl) 0 rfl (.agg (.tmp 1 rfl)) rfl s28) ?_
              show Nx _ _ _ _ _ [(7, .ref 106), (34, .agg (cNode v_y495)), (33, .ptr (cNode v_y495)), (32, I v_t494), (31, SL 6 cNode v_a1), (28, B (decide (v_t494 < (v_a1.length : Int)))), (0, SL 6 cNode v_a1), (1, I v_a2), (6, I v_t494)] [(106, .var 28 [I v_y495.feature, I v_y495.cut, I v_y495.left, I v_y495.right, B v_y495.less, I v_y495.value])]
              refine nx_nil ?_
              refine Says.ex (S' := [(7, .ref 106), (0, SL 6 cNode v_a1), (1, I v_a2), (6, I v_t494)]) (O' := [(106, .var 28 [I v_y495.feature, I v_y495.cut, I v_y495.left, I v_y495.right, B v_y495.less, I v_y495.value])]) (says_pick [0, 6, 7, 8] [0] rfl rfl) ?_
              refine ex_kx (hK997 _ _ ?_)
              refine cw_seq fun K998 hK998 => ?_
              refine cw_region ?_
              refine nx_o (op_fieldVar (.tmp 0 rfl) 0 rfl o28_5) rfl ?_
              refine nx_o (op_loadV (.tmp 0 rfl) 0 rfl rfl a3) rfl ?_
              obtain ⟨v_r496, hv_r496, h⟩ := bnd h
              refine nx_o (op_call0 (show Fn Go.Proofs.Tryd.prog 122 [I v_y495.value] [] (B v_r496) [] from (f122_fn N v_y495.value _ hv_r496)) c122 (.cons (.tmp 0 rfl) .nil)) rfl ?_
              refine nx_o (op_assign (.tmp 0 rfl)) rfl ?_
              refine nx_nil ?_
              refine Says.ex (S' := [(8, B v_r496), (7, .ref 106), (0, SL 6 cNode v_a1), (1, I v_a2), (6, I v_t494)]) (O' := [(106, .var 28 [I v_y495.feature, I v_y495.cut, I v_y495.left, I v_y495.right, B v_y495.less, I v_y495.value])]) (says_pick [0, 4, 5, 6, 7] [0] rfl rfl) ?_
              refine ex_kx (hK998 _ _ ?_)
              refine cw_seq fun K999 hK999 => ?_
              refine cw_region ?_
              refine nx_o (op_fieldVar (.tmp 1 rfl) 0 rfl o28_1) rfl ?_
              refine nx_o (op_loadV (.tmp 0 rfl) 0 rfl rfl a3) rfl ?_
              obtain ⟨v_r497, hv_r497, h⟩ := bnd h
              refine nx_o (op_call0 (show Fn Go.Proofs.Tryd.prog 122 [I v_y495.cut] [] (B v_r497) [] from (f122_fn N v_y495.cut _ hv_r497)) c122 (.cons (.tmp 0 rfl) .nil)) rfl ?_
              refine nx_o (op_assign (.tmp 0 rfl)) rfl ?_
              refine nx_nil ?_
              refine Says.ex (S' := [(9, B v_r497), (8, B v_r496), (7, .ref 106), (0, SL 6 cNode v_a1), (1, I v_a2), (6, I v_t494)]) (O' := [(106, .var 28 [I v_y495.feature, I v_y495.cut, I v_y495.left, I v_y495.right, B v_y495.less, I v_y495.value])]) (says_pick [0, 4, 5, 6, 7, 8] [0] rfl rfl) ?_
              refine ex_kx (hK999 _ _ ?_)
              refine cw_seq fun K1000 hK1000 => ?_
              refine cw_seq fun K1001 hK1001 => ?_
              refine cw_region ?_
              refine nx_o (op_fieldVar (.tmp 2 rfl) 0 rfl o28_0) rfl ?_
              refine nx_o (op_loadV (.tmp 0 rfl) 0 rfl rfl a3) rfl ?_
              refine nx_o (op_eql (.tmp 0 rfl) (Can.int _ _ _)) rfl ?_
              refine nx_nil ?_
              refine Says.ex (S' := [(43, B (v_y495.feature == (-1))), (9, B v_r497), (8, B v_r496), (7, .ref 106), (0, SL 6 cNode v_a1), (1, I v_a2), (6, I v_t494)]) (O' := [(106, .var 28 [I v_y495.feature, I v_y495.cut, I v_y495.left, I v_y495.right, B v_y495.less, I v_y495.value])]) (says_pick [0, 3, 4, 5, 6, 7, 8] [0] rfl rfl) ?_
              refine ex_kx (hK1001 _ _ ?_)
              refine cw_cond (b := (v_y495.feature == (-1))) (.tmp 0 rfl) (fun hc => ?_) (fun hc => ?_)
              · have h := ite_t hc h
                refine cw_seq fun K1002 hK1002 => ?_
                refine cw_seq fun K1003 hK1003 => ?_
                refine cw_region ?_
                refine nx_o (op_move (.tmp 2 rfl)) rfl ?_
                refine nx_o (op_not (.tmp 0 rfl)) rfl ?_
                refine nx_nil ?_
                refine Says.ex (S' := [(45, B (!v_r496)), (7, .ref 106), (0, SL 6 cNode v_a1), (1, I v_a2), (6, I v_t494)]) (O' := [(106, .var 28 [I v_y495.feature, I v_y495.cut, I v_y495.left, I v_y495.right, B v_y495.less, I v_y495.value])]) (says_pick [0, 5, 6, 7, 8] [0] rfl rfl) ?_
                refine ex_kx (hK1003 _ _ ?_)
                refine cw_cond (b := (!v_r496)) (.tmp 0 rfl) (fun hc => ?_) (fun hc => ?_)
                · have h := ite_t hc h
                  refine cw_seq fun K1004 hK1004 => ?_
                  refine cw_region ?_
                  refine nx_o (op_move (.tmp 4 rfl)) rfl ?_
                  refine nx_o (op_assign (.tmp 0 rfl)) rfl ?_
                  refine nx_o (op_assign (Can.int _ _ _)) rfl ?_
                  refine nx_nil ?_
                  refine Says.ex (S' := [(5, I 1), (4, I v_t494)]) (O' := []) (says_pick [0, 1] [] rfl rfl) ?_
                  refine ex_kx (hK1004 _ _ ?_)
                  refine cw_ret ?_
                  refine ex_tr ?_
                  refine ex_tr ?_
                  refine ex_br ?_
                  refine ex_tr ?_
                  refine ex_tr ?_
                  refine ex_br ?_
                  refine ex_tr ?_
                  cases h
                  refine Says.ex (S' := [(4, I v_t494), (5, I 1)]) (O' := []) (says_pick [1, 0] [] rfl rfl) ?_
                  exact ex_done (.inl rfl) rfl (fun a w G V hs _ hS => resM rfl (.tmp (.tmp 0 rfl) (.tmp (.tmp 1 rfl) .nil)) a w G V hs hS)
                · have h := ite_f hc h
                  refine cw_skip ?_
                  refine ex_kx (hK1002 _ _ ?_)
                  refine cw_seq fun K1005 hK1005 => ?_
                  refine cw_seq fun K1006 hK1006 => ?_
                  refine cw_region ?_
                  refine nx_o (op_fieldVar (.tmp 1 rfl) 0 rfl o28_1) rfl ?_
                  refine nx_o (op_loadV (.tmp 0 rfl) 0 rfl rfl a3) rfl ?_
                  refine nx_o (op_neq (.tmp 0 rfl) (Can.int _ _ _)) rfl ?_
                  refine nx_o (op_move (.tmp 0 rfl)) rfl ?_
                  refine nx_g (opy_guard (cc := (!(v_y495.cut != 0))) (.plain 0 rfl) rfl rfl (fun hg => (op_fieldVar (.tmp 5 rfl) 0 rfl o28_2))) rfl ?_
                  refine nx_g (opy_guard (cc := (!(v_y495.cut != 0))) (.plain 1 rfl) rfl rfl (fun hg => (op_loadV (.cd 0 rfl hg) 0 rfl rfl a3))) rfl ?_
                  refine nx_g (opy_guard (cc := (!(v_y495.cut != 0))) (.plain 2 rfl) rfl rfl (fun hg => (op_neq (.cd 0 rfl hg) (Can.int _ _ _)))) rfl ?_
                  refine nx_o (op_or (.tmp 3 rfl) (fun hp => (.cd 0 rfl (not_t hp)))) rfl ?_
                  refine nx_o (op_move (.tmp 0 rfl)) rfl ?_
                  refine nx_g (opy_guard (cc := (!((v_y495.cut != 0) || (v_y495.left != 0)))) (.plain 0 rfl) rfl rfl (fun hg => (op_fieldVar (.tmp 10 rfl) 0 rfl o28_3))) rfl ?_
                  refine nx_g (opy_guard (cc := (!((v_y495.cut != 0) || (v_y495.left != 0)))) (.plain 1 rfl) rfl rfl (fun hg => (op_loadV (.cd 0 rfl hg) 0 rfl rfl a3))) rfl ?_
                  refine nx_g (opy_guard (cc := (!((v_y495.cut != 0) || (v_y495.left != 0)))) (.plain 2 rfl) rfl rfl (fun hg => (op_neq (.cd 0 rfl hg) (Can.int _ _ _)))) rfl ?_
                  refine nx_o (op_or (.tmp 3 rfl) (fun hp => (.cd 0 rfl (not_t hp)))) rfl ?_
                  refine nx_o (op_move (.tmp 0 rfl)) rfl ?_
                  refine nx_g (opy_guard (cc := (!(((v_y495.cut != 0) || (v_y495.left != 0)) || (v_y495.right != 0)))) (.plain 0 rfl) rfl rfl (fun hg => (op_fieldVar (.tmp 15 rfl) 0 rfl o28_4))) rfl ?_
                  refine nx_g (opy_guard (cc := (!(((v_y495.cut != 0) || (v_y495.left != 0)) || (v_y495.right != 0)))) (.plain 1 rfl) rfl rfl (fun hg => (op_loadV (.cd 0 rfl hg) 0 rfl rfl a4))) rfl ?_
                  refine nx_o (op_or (.tmp 2 rfl) (fun hp => (.cd 0 rfl (not_t hp)))) rfl ?_
                  refine nx_nil ?_
                  refine Says.ex (S' := [(63, B ((((v_y495.cut != 0) || (v_y495.left != 0)) || (v_y495.right != 0)) || v_y495.less)), (0, SL 6 cNode v_a1), (1, I v_a2), (6, I v_t494)]) (O' := []) (says_pick [0, 19, 20, 21] [] rfl rfl) ?_
                  refine ex_kx (hK1006 _ _ ?_)
                  refine cw_cond (b := ((((v_y495.cut != 0) || (v_y495.left != 0)) || (v_y495.right != 0)) || v_y495.less)) (.tmp 0 rfl) (fun hc => ?_) (fun hc => ?_)
                  · have h := ite_t hc h
                    refine cw_seq fun K1007 hK1007 => ?_
                    refine cw_region ?_
                    refine nx_o (op_move (.tmp 3 rfl)) rfl ?_
                    refine nx_o (op_assign (.tmp 0 rfl)) rfl ?_
                    refine nx_o (op_assign (Can.int _ _ _)) rfl ?_
                    refine nx_nil ?_
                    refine Says.ex (S' := [(5, I 3), (4, I v_t494)]) (O' := []) (says_pick [0, 1] [] rfl rfl) ?_
                    refine ex_kx (hK1007 _ _ ?_)
                    refine cw_ret ?_
                    refine ex_tr ?_
                    refine ex_tr ?_
                    refine ex_br ?_
                    refine ex_tr ?_
                    refine ex_tr ?_
                    refine ex_br ?_
                    refine ex_tr ?_
                    cases h
                    refine Says.ex (S' := [(4, I v_t494), (5, I 3)]) (O' := []) (says_pick [1, 0] [] rfl rfl) ?_
                    exact ex_done (.inl rfl) rfl (fun a w G V hs _ hS => resM rfl (.tmp (.tmp 0 rfl) (.tmp (.tmp 1 rfl) .nil)) a w G V hs hS)
                  · have h := ite_f hc h
                    refine cw_skip ?_
                    refine ex_kx (hK1005 _ _ ?_)
                    refine cw_exit ?_
                    refine ex_te ?_
                    refine ex_be ?_
                    refine ex_kx (hK996 _ _ ?_)
                    refine cw_region ?_
                    refine nx_o (op_move (.tmp 3 rfl)) rfl ?_
                    refine nx_o (op_add (.tmp 0 rfl) (Can.int _ _ _)) rfl ?_
                    refine nx_k [0, 1, 2, 3, 4] (op_assign (.tmp 0 rfl)) rfl rfl ?_
                    show Nx _ _ _ _ _ [(6, I (w64 (v_t494 + 1))), (30, I (w64 (v_t494 + 1))), (29, I v_t494), (63, B ((((v_y495.cut != 0) || (v_y495.left != 0)) || (v_y495.right != 0)) || v_y495.less)), (0, SL 6 cNode v_a1), (1, I v_a2)] []
                    refine nx_nil ?_
                    refine Says.ex (S' := [(6, I (w64 (v_t494 + 1))), (0, SL 6 cNode v_a1), (1, I v_a2)]) (O' := []) (says_pick [0, 4, 5] [] rfl rfl) ?_
                    refine ex_kx ?_
                    refine Says.kx (S' := [(0, SL 6 cNode v_a1), (1, I v_a2), (6, I (w64 (v_t494 + 1)))]) (O' := []) (says_pick [1, 2, 0] [] rfl rfl) ?_
                    exact hK993 _ _ ⟨w64 (v_t494 + 1), h, rfl, rfl⟩
              · have h := ite_f hc h
                refine cw_skip ?_
                refine ex_kx (hK1000 _ _ ?_)
                refine cw_seq fun K1008 hK1008 => ?_
                refine cw_seq fun K1009 hK1009 => ?_
                refine cw_region ?_
                refine nx_o (op_fieldVar (.tmp 3 rfl) 0 rfl o28_0) rfl ?_
                refine nx_o (op_loadV (.tmp 0 rfl) 0 rfl rfl a3) rfl ?_
                refine nx_o (op_lss (.tmp 0 rfl) (Can.int _ _ _)) rfl ?_
                refine nx_o (op_move (.tmp 0 rfl)) rfl ?_
                refine nx_g (opy_guard (cc := (!(decide (v_y495.feature < 0)))) (.plain 0 rfl) rfl rfl (fun hg => (op_fieldVar (.tmp 7 rfl) 0 rfl o28_0))) rfl ?_
                refine nx_g (opy_guard (cc := (!(decide (v_y495.feature < 0)))) (.plain 1 rfl) rfl rfl (fun hg => (op_loadV (.cd 0 rfl hg) 0 rfl rfl a3))) rfl ?_
                refine nx_g (opy_guard (cc := (!(decide (v_y495.feature < 0)))) (.plain 2 rfl) rfl rfl (fun hg => (op_move (.tmp 11 rfl)))) rfl ?_
                refine nx_g (opy_guard (cc := (!(decide (v_y495.feature < 0)))) (.plain 3 rfl) rfl rfl (fun hg => (op_geq (.cd 1 rfl hg) (.cd 0 rfl hg)))) rfl ?_
                refine nx_o (op_or (.tmp 4 rfl) (fun hp => (.cd 0 rfl (not_t hp)))) rfl ?_
                refine nx_o (op_move (.tmp 0 rfl)) rfl ?_
                refine nx_g (opy_guard (cc := (!((decide (v_y495.feature < 0)) || (decide (v_y495.feature ≥ v_a2))))) (.plain 0 rfl) rfl rfl (fun hg => (op_move (.tmp 11 rfl)))) rfl ?_
                refine nx_g (opy_guard (cc := (!((decide (v_y495.feature < 0)) || (decide (v_y495.feature ≥ v_a2))))) (.plain 1 rfl) rfl rfl (fun hg => (op_not (.cd 0 rfl hg)))) rfl ?_
                refine nx_o (op_or (.tmp 2 rfl) (fun hp => (.cd 0 rfl (not_t hp)))) rfl ?_
                refine nx_o (op_move (.tmp 0 rfl)) rfl ?_
                refine nx_g (opy_guard (cc := (!(((decide (v_y495.feature < 0)) || (decide (v_y495.feature ≥ v_a2))) || (!v_r497)))) (.plain 0 rfl) rfl rfl (fun hg => (op_fieldVar (.tmp 17 rfl) 0 rfl o28_2))) rfl ?_
                refine nx_g (opy_guard (cc := (!(((decide (v_y495.feature < 0)) || (decide (v_y495.feature ≥ v_a2))) || (!v_r497)))) (.plain 1 rfl) rfl rfl (fun hg => (op_loadV (.cd 0 rfl hg) 0 rfl rfl a3))) rfl ?_
                refine nx_g (opy_guard (cc := (!(((decide (v_y495.feature < 0)) || (decide (v_y495.feature ≥ v_a2))) || (!v_r497)))) (.plain 2 rfl) rfl rfl (fun hg => (op_move (.tmp 22 rfl)))) rfl ?_
                refine nx_g (opy_guard (cc := (!(((decide (v_y495.feature < 0)) || (decide (v_y495.feature ≥ v_a2))) || (!v_r497)))) (.plain 3 rfl) rfl rfl (fun hg => (op_leq (.cd 1 rfl hg) (.cd 0 rfl hg)))) rfl ?_
                refine nx_o (op_or (.tmp 4 rfl) (fun hp => (.cd 0 rfl (not_t hp)))) rfl ?_
                refine nx_o (op_move (.tmp 0 rfl)) rfl ?_
                refine nx_g (opy_guard (cc := (!((((decide (v_y495.feature < 0)) || (decide (v_y495.feature ≥ v_a2))) || (!v_r497)) || (decide (v_y495.left ≤ v_t494))))) (.plain 0 rfl) rfl rfl (fun hg => (op_fieldVar (.tmp 23 rfl) 0 rfl o28_2))) rfl ?_
                refine nx_g (opy_guard (cc := (!((((decide (v_y495.feature < 0)) || (decide (v_y495.feature ≥ v_a2))) || (!v_r497)) || (decide (v_y495.left ≤ v_t494))))) (.plain 1 rfl) rfl rfl (fun hg => (op_loadV (.cd 0 rfl hg) 0 rfl rfl a3))) rfl ?_
                refine nx_g (opy_guard (cc := (!((((decide (v_y495.feature < 0)) || (decide (v_y495.feature ≥ v_a2))) || (!v_r497)) || (decide (v_y495.left ≤ v_t494))))) (.plain 2 rfl) rfl rfl (fun hg => (op_move (.tmp 26 rfl)))) rfl ?_
                refine nx_g (opy_guard (cc := (!((((decide (v_y495.feature < 0)) || (decide (v_y495.feature ≥ v_a2))) || (!v_r497)) || (decide (v_y495.left ≤ v_t494))))) (.plain 3 rfl) rfl rfl (fun hg => (op_len (.cd 0 rfl hg) u29))) rfl ?_
                refine nx_g (opy_guard (cc := (!((((decide (v_y495.feature < 0)) || (decide (v_y495.feature ≥ v_a2))) || (!v_r497)) || (decide (v_y495.left ≤ v_t494))))) (.plain 4 rfl) rfl rfl (fun hg => (op_geq (.cd 2 rfl hg) (.cd 0 rfl hg)))) rfl ?_
                refine nx_o (op_or (.tmp 5 rfl) (fun hp => (.cd 0 rfl (not_t hp)))) rfl ?_
                refine nx_o (op_move (.tmp 0 rfl)) rfl ?_
                refine nx_g (opy_guard (cc := (!(((((decide (v_y495.feature < 0)) || (decide (v_y495.feature ≥ v_a2))) || (!v_r497)) || (decide (v_y495.left ≤ v_t494))) || (decide (v_y495.left ≥ (v_a1.length : Int)))))) (.plain 0 rfl) rfl rfl (fun hg => (op_fieldVar (.tmp 30 rfl) 0 rfl o28_3))) rfl ?_
                refine nx_g (opy_guard (cc := (!(((((decide (v_y495.feature < 0)) || (decide (v_y495.feature ≥ v_a2))) || (!v_r497)) || (decide (v_y495.left ≤ v_t494))) || (decide (v_y495.left ≥ (v_a1.length : Int)))))) (.plain 1 rfl) rfl rfl (fun hg => (op_loadV (.cd 0 rfl hg) 0 rfl rfl a3))) rfl ?_
                refine nx_g (opy_guard (cc := (!(((((decide (v_y495.feature < 0)) || (decide (v_y495.feature ≥ v_a2))) || (!v_r497)) || (decide (v_y495.left ≤ v_t494))) || (decide (v_y495.left ≥ (v_a1.length : Int)))))) (.plain 2 rfl) rfl rfl (fun hg => (op_move (.tmp 35 rfl)))) rfl ?_
                refine nx_g (opy_guard (cc := (!(((((decide (v_y495.feature < 0)) || (decide (v_y495.feature ≥ v_a2))) || (!v_r497)) || (decide (v_y495.left ≤ v_t494))) || (decide (v_y495.left ≥ (v_a1.length : Int)))))) (.plain 3 rfl) rfl rfl (fun hg => (op_leq (.cd 1 rfl hg) (.cd 0 rfl hg)))) rfl ?_
                refine nx_o (op_or (.tmp 4 rfl) (fun hp => (.cd 0 rfl (not_t hp)))) rfl ?_
                refine nx_o (op_move (.tmp 0 rfl)) rfl ?_
                refine nx_g (opy_guard (cc := (!((((((decide (v_y495.feature < 0)) || (decide (v_y495.feature ≥ v_a2))) || (!v_r497)) || (decide (v_y495.left ≤ v_t494))) || (decide (v_y495.left ≥ (v_a1.length : Int)))) || (decide (v_y495.right ≤ v_t494))))) (.plain 0 rfl) rfl rfl (fun hg => (op_fieldVar (.tmp 36 rfl) 0 rfl o28_3))) rfl ?_
                refine nx_g (opy_guard (cc := (!((((((decide (v_y495.feature < 0)) || (decide (v_y495.feature ≥ v_a2))) || (!v_r497)) || (decide (v_y495.left ≤ v_t494))) || (decide (v_y495.left ≥ (v_a1.length : Int)))) || (decide (v_y495.right ≤ v_t494))))) (.plain 1 rfl) rfl rfl (fun hg => (op_loadV (.cd 0 rfl hg) 0 rfl rfl a3))) rfl ?_
                refine nx_g (opy_guard (cc := (!((((((decide (v_y495.feature < 0)) || (decide (v_y495.feature ≥ v_a2))) || (!v_r497)) || (decide (v_y495.left ≤ v_t494))) || (decide (v_y495.left ≥ (v_a1.length : Int)))) || (decide (v_y495.right ≤ v_t494))))) (.plain 2 rfl) rfl rfl (fun hg => (op_move (.tmp 39 rfl)))) rfl ?_
                refine nx_g (opy_guard (cc := (!((((((decide (v_y495.feature < 0)) || (decide (v_y495.feature ≥ v_a2))) || (!v_r497)) || (decide (v_y495.left ≤ v_t494))) || (decide (v_y495.left ≥ (v_a1.length : Int)))) || (decide (v_y495.right ≤ v_t494))))) (.plain 3 rfl) rfl rfl (fun hg => (op_len (.cd 0 rfl hg) u29))) rfl ?_
                refine nx_g (opy_guard (cc := (!((((((decide (v_y495.feature < 0)) || (decide (v_y495.feature ≥ v_a2))) || (!v_r497)) || (decide (v_y495.left ≤ v_t494))) || (decide (v_y495.left ≥ (v_a1.length : Int)))) || (decide (v_y495.right ≤ v_t494))))) (.plain 4 rfl) rfl rfl (fun hg => (op_geq (.cd 2 rfl hg) (.cd 0 rfl hg)))) rfl ?_
                refine nx_o (op_or (.tmp 5 rfl) (fun hp => (.cd 0 rfl (not_t hp)))) rfl ?_
                refine nx_nil ?_
                refine Says.ex (S' := [(103, B (((((((decide (v_y495.feature < 0)) || (decide (v_y495.feature ≥ v_a2))) || (!v_r497)) || (decide (v_y495.left ≤ v_t494))) || (decide (v_y495.left ≥ (v_a1.length : Int)))) || (decide (v_y495.right ≤ v_t494))) || (decide (v_y495.right ≥ (v_a1.length : Int))))), (7, .ref 106), (0, SL 6 cNode v_a1), (1, I v_a2), (6, I v_t494)]) (O' := [(106, .var 28 [I v_y495.feature, I v_y495.cut, I v_y495.left, I v_y495.right, B v_y495.less, I v_y495.value])]) (says_pick [0, 42, 43, 44, 45] [0] rfl rfl) ?_
                refine ex_kx (hK1009 _ _ ?_)
                refine cw_cond (b := (((((((decide (v_y495.feature < 0)) || (decide (v_y495.feature ≥ v_a2))) || (!v_r497)) || (decide (v_y495.left ≤ v_t494))) || (decide (v_y495.left ≥ (v_a1.length : Int)))) || (decide (v_y495.right ≤ v_t494))) || (decide (v_y495.right ≥ (v_a1.length : Int))))) (.tmp 0 rfl) (fun hc => ?_) (fun hc => ?_)
                · have h := ite_t hc h
                  refine cw_seq fun K1010 hK1010 => ?_
                  refine cw_region ?_
                  refine nx_o (op_move (.tmp 4 rfl)) rfl ?_
                  refine nx_o (op_assign (.tmp 0 rfl)) rfl ?_
                  refine nx_o (op_assign (Can.int _ _ _)) rfl ?_
                  refine nx_nil ?_
                  refine Says.ex (S' := [(5, I 1), (4, I v_t494)]) (O' := []) (says_pick [0, 1] [] rfl rfl) ?_
                  refine ex_kx (hK1010 _ _ ?_)
                  refine cw_ret ?_
                  refine ex_tr ?_
                  refine ex_br ?_
                  refine ex_tr ?_
                  refine ex_tr ?_
                  refine ex_br ?_
                  refine ex_tr ?_
                  cases h
                  refine Says.ex (S' := [(4, I v_t494), (5, I 1)]) (O' := []) (says_pick [1, 0] [] rfl rfl) ?_
                  exact ex_done (.inl rfl) rfl (fun a w G V hs _ hS => resM rfl (.tmp (.tmp 0 rfl) (.tmp (.tmp 1 rfl) .nil)) a w G V hs hS)
                · have h := ite_f hc h
                  refine cw_skip ?_
                  refine ex_kx (hK1008 _ _ ?_)
                  refine cw_seq fun K1011 hK1011 => ?_
                  refine cw_region ?_
                  refine nx_o (op_fieldVar (.tmp 1 rfl) 0 rfl o28_5) rfl ?_
                  refine nx_o (op_loadV (.tmp 0 rfl) 0 rfl rfl a3) rfl ?_
                  refine nx_o (op_neq (.tmp 0 rfl) (Can.int _ _ _)) rfl ?_
                  refine nx_o (op_move (.tmp 0 rfl)) rfl ?_
                  refine nx_g (opy_guard (cc := (!(v_y495.value != 0))) (.plain 0 rfl) rfl rfl (fun hg => (op_fieldVar (.tmp 5 rfl) 0 rfl o28_2))) rfl ?_
                  refine nx_g (opy_guard (cc := (!(v_y495.value != 0))) (.plain 1 rfl) rfl rfl (fun hg => (op_loadV (.cd 0 rfl hg) 0 rfl rfl a3))) rfl ?_
                  refine nx_g (opy_guard (cc := (!(v_y495.value != 0))) (.plain 2 rfl) rfl rfl (fun hg => (op_fieldVar (.tmp 7 rfl) 0 rfl o28_3))) rfl ?_
                  refine nx_g (opy_guard (cc := (!(v_y495.value != 0))) (.plain 3 rfl) rfl rfl (fun hg => (op_loadV (.cd 0 rfl hg) 0 rfl rfl a3))) rfl ?_
                  refine nx_g (opy_guard (cc := (!(v_y495.value != 0))) (.plain 4 rfl) rfl rfl (fun hg => (op_eql (.cd 2 rfl hg) (.cd 0 rfl hg)))) rfl ?_
                  refine nx_o (op_or (.tmp 5 rfl) (fun hp => (.cd 0 rfl (not_t hp)))) rfl ?_
                  refine nx_nil ?_
                  refine Says.ex (S' := [(114, B ((v_y495.value != 0) || (v_y495.left == v_y495.right))), (0, SL 6 cNode v_a1), (1, I v_a2), (6, I v_t494)]) (O' := []) (says_pick [0, 12, 13, 14] [] rfl rfl) ?_
                  refine ex_kx (hK1011 _ _ ?_)
                  refine cw_cond (b := ((v_y495.value != 0) || (v_y495.left == v_y495.right))) (.tmp 0 rfl) (fun hc => ?_) (fun hc => ?_)
                  · have h := ite_t hc h
                    refine cw_seq fun K1012 hK1012 => ?_
                    refine cw_region ?_
                    refine nx_o (op_move (.tmp 3 rfl)) rfl ?_
                    refine nx_o (op_assign (.tmp 0 rfl)) rfl ?_
                    refine nx_o (op_assign (Can.int _ _ _)) rfl ?_
                    refine nx_nil ?_
                    refine Says.ex (S' := [(5, I 3), (4, I v_t494)]) (O' := []) (says_pick [0, 1] [] rfl rfl) ?_
                    refine ex_kx (hK1012 _ _ ?_)
                    refine cw_ret ?_
                    refine ex_br ?_
                    refine ex_tr ?_
                    refine ex_tr ?_
                    refine ex_br ?_
                    refine ex_tr ?_
                    cases h
                    refine Says.ex (S' := [(4, I v_t494), (5, I 3)]) (O' := []) (says_pick [1, 0] [] rfl rfl) ?_
                    exact ex_done (.inl rfl) rfl (fun a w G V hs _ hS => resM rfl (.tmp (.tmp 0 rfl) (.tmp (.tmp 1 rfl) .nil)) a w G V hs hS)
                  · have h := ite_f hc h
                    refine cw_skip ?_
                    refine ex_bn ?_
                    refine ex_kx (hK996 _ _ ?_)
                    refine cw_region ?_
                    refine nx_o (op_move (.tmp 3 rfl)) rfl ?_
                    refine nx_o (op_add (.tmp 0 rfl) (Can.int _ _ _)) rfl ?_
                    refine nx_k [0, 1, 2, 3, 4] (op_assign (.tmp 0 rfl)) rfl rfl ?_
                    show Nx _ _ _ _ _ [(6, I (w64 (v_t494 + 1))), (30, I (w64 (v_t494 + 1))), (29, I v_t494), (114, B ((v_y495.value != 0) || (v_y495.left == v_y495.right))), (0, SL 6 cNode v_a1), (1, I v_a2)] []
                    refine nx_nil ?_
                    refine Says.ex (S' := [(6, I (w64 (v_t494 + 1))), (0, SL 6 cNode v_a1), (1, I v_a2)]) (O' := []) (says_pick [0, 4, 5] [] rfl rfl) ?_
                    refine ex_kx ?_
                    refine Says.kx (S' := [(0, SL 6 cNode v_a1), (1, I v_a2), (6, I (w64 (v_t494 + 1)))]) (O' := []) (says_pick [1, 2, 0] [] rfl rfl) ?_
                    exact hK993 _ _ ⟨w64 (v_t494 + 1), h, rfl, rfl⟩
            · have h := ite_f hc h
              refine cw_exit ?_
              refine ex_te ?_
              refine ex_te ?_
              refine ex_be ?_
              refine ex_kx ?_
              refine Says.kx (S' := [(0, SL 6 cNode v_a1)]) (O' := []) (says_pick [1] [] rfl rfl) ?_
              exact hK71 _ _ ⟨h, rfl, rfl⟩

theorem f28_fn (N : Nat) (v_t1 : List Node) (v_l2 : List Sample) (r : Int) (h : orchref2_Ready N v_t1 v_l2 = some r) : Fn Go.Proofs.Tryd.prog 28 [SL 6 cNode v_t1, SL 2 cSample v_l2] [] (I r) [] := by
  unfold orchref2_Ready at h
  refine fn_intro [] fun28 rfl rfl (Nat.le_of_ble_eq_true rfl) rfl rfl (fun w G V => ?_)
  show Cw _ _ _ _ [(0, SL 6 cNode v_t1), (1, SL 2 cSample v_l2)] []
  refine cw_seq fun K1 hK1 => ?_
  refine cw_region ?_
  refine nx_o (op_assign (Can.int _ _ _)) rfl ?_
  refine nx_nil ?_
  refine Says.ex (S' := [(0, SL 6 cNode v_t1), (1, SL 2 cSample v_l2)]) (O' := []) (says_pick [1, 2] [] rfl rfl) ?_
  refine ex_kx (hK1 _ _ ?_)
  refine cw_seq fun K2 hK2 => ?_
  refine cw_seq fun K3 hK3 => ?_
  refine cw_region ?_
  refine nx_o (op_move (.tmp 1 rfl)) rfl ?_
  refine nx_o (op_len (.tmp 0 rfl) u50) rfl ?_
  refine nx_o (op_eql (.tmp 0 rfl) (Can.int _ _ _)) rfl ?_
  refine nx_nil ?_
  refine Says.ex (S' := [(10, B ((v_l2.length : Int) == 0)), (0, SL 6 cNode v_t1), (1, SL 2 cSample v_l2)]) (O' := []) (says_pick [0, 3, 4] [] rfl rfl) ?_
  refine ex_kx (hK3 _ _ ?_)
  refine cw_cond (b := ((v_l2.length : Int) == 0)) (.tmp 0 rfl) (fun hc => ?_) (fun hc => ?_)
  · have h := ite_t hc h
    refine cw_seq fun K4 hK4 => ?_
    refine cw_region ?_
    refine nx_o (op_assign (Can.int _ _ _)) rfl ?_
    refine nx_nil ?_
    refine Says.ex (S' := [(4, I 5)]) (O' := []) (says_pick [0] [] rfl rfl) ?_
    refine ex_kx (hK4 _ _ ?_)
    refine cw_ret ?_
    refine ex_tr ?_
    cases h
    exact ex_done (.inl rfl) rfl (fun a w G V hs _ hS => res1 rfl (.tmp 0 rfl) a w G V hS)
  · have h := ite_f hc h
    refine cw_skip ?_
    refine ex_kx (hK2 _ _ ?_)
    refine cw_seq fun K5 hK5 => ?_
    refine cw_region ?_
    refine nx_o (op_move (.tmp 2 rfl)) rfl ?_
    obtain ⟨v_y3, hv_y3, h⟩ := bnd h
    refine nx_o (op_indexX hv_y3 (.tmp 0 rfl) (Can.int _ _ _) u50 s146) rfl ?_
    refine nx_o (op_field (.tmp 0 rfl) o146_0) rfl ?_
    refine nx_o (op_load1 (.tmp 0 rfl) a22) rfl ?_
    refine nx_o (op_len (.tmp 0 rfl) u22) rfl ?_
    refine nx_o (op_assign (.tmp 0 rfl)) rfl ?_
    refine nx_nil ?_
    refine Says.ex (S' := [(5, I (v_y3.row.length : Int)), (0, SL 6 cNode v_t1), (1, SL 2 cSample v_l2)]) (O' := []) (says_pick [0, 7, 8] [] rfl rfl) ?_
    refine ex_kx (hK5 _ _ ?_)
    refine cw_seq fun K6 hK6 => ?_
    refine cw_region ?_
    refine nx_o (op_move (.tmp 1 rfl)) rfl ?_
    refine nx_o (op_move (.tmp 1 rfl)) rfl ?_
    obtain ⟨v_r4, hv_r4, h⟩ := bnd h
    refine nx_o (op_call0 (show Fn Go.Proofs.Tryd.prog 69 [SL 6 cNode v_t1, I (v_y3.row.length : Int)] [] (.tup [I v_r4.1, I v_r4.2]) [] from (f69_fn N v_t1 (v_y3.row.length : Int) _ hv_r4)) c69 (.cons (.tmp 1 rfl) (.cons (.tmp 0 rfl) .nil))) rfl ?_
    refine nx_o (op_move (.tmp 0 rfl)) rfl ?_
    refine nx_o (op_extract (.tmp 0 rfl) rfl) rfl ?_
    refine nx_o (op_extract (.tmp 1 rfl) rfl) rfl ?_
    refine nx_o (op_assign (.tmp 1 rfl)) rfl ?_
    refine nx_o (op_assign (.tmp 1 rfl)) rfl ?_
    refine nx_nil ?_
    refine Says.ex (S' := [(7, I v_r4.2), (5, I (v_y3.row.length : Int)), (1, SL 2 cSample v_l2)]) (O' := []) (says_pick [0, 8, 10] [] rfl rfl) ?_
    refine ex_kx (hK6 _ _ ?_)
    refine cw_seq fun K7 hK7 => ?_
    refine cw_seq fun K8 hK8 => ?_
    refine cw_region ?_
    refine nx_o (op_move (.tmp 0 rfl)) rfl ?_
    refine nx_o (op_eql (.tmp 0 rfl) (Can.int _ _ _)) rfl ?_
    refine nx_nil ?_
    refine Says.ex (S' := [(23, B (v_r4.2 == 0)), (7, I v_r4.2), (5, I (v_y3.row.length : Int)), (1, SL 2 cSample v_l2)]) (O' := []) (says_pick [0, 2, 3, 4] [] rfl rfl) ?_
    refine ex_kx (hK8 _ _ ?_)
    refine cw_cond (b := (v_r4.2 == 0)) (.tmp 0 rfl) (fun hc => ?_) (fun hc => ?_)
    · have h := ite_t hc h
      refine cw_region ?_
      refine nx_o (op_move (.tmp 3 rfl)) rfl ?_
      refine nx_o (op_move (.tmp 3 rfl)) rfl ?_
      obtain ⟨v_r5, hv_r5, h⟩ := bnd h
      refine nx_o (op_call0 (show Fn Go.Proofs.Tryd.prog 41 [SL 2 cSample v_l2, I (v_y3.row.length : Int)] [] (.tup [I v_r5.1, I v_r5.2]) [] from (f41_fn N v_l2 (v_y3.row.length : Int) _ hv_r5)) c41 (.cons (.tmp 1 rfl) (.cons (.tmp 0 rfl) .nil))) rfl ?_
      refine nx_o (op_move (.tmp 0 rfl)) rfl ?_
      refine nx_o (op_extract (.tmp 0 rfl) rfl) rfl ?_
      refine nx_o (op_extract (.tmp 1 rfl) rfl) rfl ?_
      refine nx_k [0, 1, 2, 3, 4, 5, 6, 8, 9] (op_assign (.tmp 0 rfl)) rfl rfl ?_
      show Nx _ _ _ _ _ [(7, I v_r5.2), (29, I v_r5.2), (28, I v_r5.1), (24, .tup [I v_r5.1, I v_r5.2]), (27, .tup [I v_r5.1, I v_r5.2]), (26, I (v_y3.row.length : Int)), (25, SL 2 cSample v_l2), (23, B (v_r4.2 == 0)), (5, I (v_y3.row.length : Int)), (1, SL 2 cSample v_l2)] []
      refine nx_nil ?_
      refine Says.ex (S' := [(7, I v_r5.2)]) (O' := []) (says_pick [0] [] rfl rfl) ?_
      refine ex_kx (hK7 _ _ ?_)
      refine cw_seq fun K9 hK9 => ?_
      refine cw_region ?_
      refine nx_o (op_move (.tmp 0 rfl)) rfl ?_
      refine nx_o (op_assign (.tmp 0 rfl)) rfl ?_
      refine nx_nil ?_
      refine Says.ex (S' := [(4, I v_r5.2)]) (O' := []) (says_pick [0] [] rfl rfl) ?_
      refine ex_kx (hK9 _ _ ?_)
      refine cw_ret ?_
      cases h
      exact ex_done (.inl rfl) rfl (fun a w G V hs _ hS => res1 rfl (.tmp 0 rfl) a w G V hS)
    · have h := ite_f hc h
      refine cw_skip ?_
      refine ex_kx (hK7 _ _ ?_)
      refine cw_seq fun K10 hK10 => ?_
      refine cw_region ?_
      refine nx_o (op_move (.tmp 1 rfl)) rfl ?_
      refine nx_o (op_assign (.tmp 0 rfl)) rfl ?_
      refine nx_nil ?_
      refine Says.ex (S' := [(4, I v_r4.2)]) (O' := []) (says_pick [0] [] rfl rfl) ?_
      refine ex_kx (hK10 _ _ ?_)
      refine cw_ret ?_
      cases h
      exact ex_done (.inl rfl) rfl (fun a w G V hs _ hS => res1 rfl (.tmp 0 rfl) a w G V hS)

end Go.Dl
