/- Printed by wip/gen: the calls compute it. -/
import Derived.Test.YtbalmknhjokgaaaDoorDW3
set_option linter.unusedVariables false
set_option maxRecDepth 4000
set_option maxHeartbeats 2000000
namespace Go.Dl
open Go

theorem f153_fn (N : Nat) (v_n1 : Node) (v_c2 : Int) (r : Int) (h : tree_Next N v_n1 v_c2 = some r) : Fn Go.Proofs.Tryd.prog 153 [.agg (cNode v_n1), I v_c2] [] (I r) [] := by
  unfold tree_Next at h
  refine fn_intro [] fun153 rfl rfl (Nat.le_of_ble_eq_true rfl) rfl rfl (fun w G V => ?_)
  show Cw _ _ _ _ [(0, .agg (cNode v_n1)), (1, I v_c2)] []
  refine cw_seq fun K1 hK1 => ?_
  refine cw_region ?_
  refine nx_o (op_box (its := (cNode v_n1)) (.agg (.tmp 0 rfl))) rfl ?_
  refine nx_o (op_assign (Can.int _ _ _)) rfl ?_
  refine nx_nil ?_
  refine Says.ex (S' := [(2, .ptr (cNode v_n1)), (1, I v_c2)]) (O' := []) (says_pick [1, 3] [] rfl rfl) ?_
  refine ex_kx (hK1 _ _ ?_)
  refine cw_seq fun K2 hK2 => ?_
  refine cw_seq fun K3 hK3 => ?_
  refine cw_region ?_
  refine nx_o (op_move (.tmp 1 rfl)) rfl ?_
  refine nx_o (op_eql (.tmp 0 rfl) (Can.int _ _ _)) rfl ?_
  refine nx_o (op_move (.tmp 0 rfl)) rfl ?_
  refine nx_g (opy_guard (cc := (v_c2 == (-1125899906842624))) (.plain 0 rfl) rfl rfl (fun hg => (op_field (.tmp 3 rfl) o28_4))) rfl ?_
  refine nx_g (opy_guard (cc := (v_c2 == (-1125899906842624))) (.plain 1 rfl) rfl rfl (fun hg => (op_load1 (.cd 0 rfl hg) a4))) rfl ?_
  refine nx_o (op_and (.tmp 2 rfl) (fun hp => (.cd 0 rfl hp))) rfl ?_
  refine nx_o (op_move (.tmp 0 rfl)) rfl ?_
  refine nx_g (opy_guard (cc := (!((v_c2 == (-1125899906842624)) && v_n1.less))) (.plain 0 rfl) rfl rfl (fun hg => (op_move (.tmp 8 rfl)))) rfl ?_
  refine nx_g (opy_guard (cc := (!((v_c2 == (-1125899906842624)) && v_n1.less))) (.plain 1 rfl) rfl rfl (fun hg => (op_neq (.cd 0 rfl hg) (Can.int _ _ _)))) rfl ?_
  refine nx_g (opy_guard (cc := (!((v_c2 == (-1125899906842624)) && v_n1.less))) (.plain 2 rfl) rfl rfl (fun hg => (op_move (.cd 0 rfl hg)))) rfl ?_
  refine nx_g (opy_guard (cc := ((!((v_c2 == (-1125899906842624)) && v_n1.less)) && (v_c2 != (-1125899906842624)))) (.cond 0 rfl) rfl rfl (fun hg => (op_move (.tmp 11 rfl)))) rfl ?_
  refine nx_g (opy_guard (cc := ((!((v_c2 == (-1125899906842624)) && v_n1.less)) && (v_c2 != (-1125899906842624)))) (.cond 1 rfl) rfl rfl (fun hg => (op_field (.tmp 11 rfl) o28_1))) rfl ?_
  refine nx_g (opy_guard (cc := ((!((v_c2 == (-1125899906842624)) && v_n1.less)) && (v_c2 != (-1125899906842624)))) (.cond 2 rfl) rfl rfl (fun hg => (op_load1 (.cd 0 rfl hg) a3))) rfl ?_
  refine nx_g (opy_guard (cc := ((!((v_c2 == (-1125899906842624)) && v_n1.less)) && (v_c2 != (-1125899906842624)))) (.cond 3 rfl) rfl rfl (fun hg => (op_lss (.cd 2 rfl hg) (.cd 0 rfl hg)))) rfl ?_
  refine nx_g (opy_guard (cc := (!((v_c2 == (-1125899906842624)) && v_n1.less))) (.plain 7 rfl) rfl rfl (fun hg => (op_and (.cd 4 rfl hg) (fun hp => (.cd 0 rfl (and_t hg hp)))))) rfl ?_
  refine nx_o (op_or (.tmp 8 rfl) (fun hp => (.cd 0 rfl (not_t hp)))) rfl ?_
  refine nx_nil ?_
  refine Says.ex (S' := [(20, B (((v_c2 == (-1125899906842624)) && v_n1.less) || ((v_c2 != (-1125899906842624)) && (decide (v_c2 < v_n1.cut))))), (2, .ptr (cNode v_n1))]) (O' := []) (says_pick [0, 16] [] rfl rfl) ?_
  refine ex_kx (hK3 _ _ ?_)
  refine cw_cond (b := (((v_c2 == (-1125899906842624)) && v_n1.less) || ((v_c2 != (-1125899906842624)) && (decide (v_c2 < v_n1.cut))))) (.tmp 0 rfl) (fun hc => ?_) (fun hc => ?_)
  · have h := ite_t hc h
    refine cw_seq fun K4 hK4 => ?_
    refine cw_region ?_
    refine nx_o (op_field (.tmp 1 rfl) o28_2) rfl ?_
    refine nx_o (op_load1 (.tmp 0 rfl) a3) rfl ?_
    refine nx_o (op_assign (.tmp 0 rfl)) rfl ?_
    refine nx_nil ?_
    refine Says.ex (S' := [(4, I v_n1.left)]) (O' := []) (says_pick [0] [] rfl rfl) ?_
    refine ex_kx (hK4 _ _ ?_)
    refine cw_ret ?_
    refine ex_tr ?_
    cases h
    exact ex_done (.inl rfl) rfl (fun a w G V hs _ hS => res1 rfl (.tmp 0 rfl) a w G V hS)
  · have h := ite_f hc h
    refine cw_skip ?_
    refine ex_kx (hK2 _ _ ?_)
    refine cw_seq fun K5 hK5 => ?_
    refine cw_region ?_
    refine nx_o (op_field (.tmp 1 rfl) o28_3) rfl ?_
    refine nx_o (op_load1 (.tmp 0 rfl) a3) rfl ?_
    refine nx_o (op_assign (.tmp 0 rfl)) rfl ?_
    refine nx_nil ?_
    refine Says.ex (S' := [(4, I v_n1.right)]) (O' := []) (says_pick [0] [] rfl rfl) ?_
    refine ex_kx (hK5 _ _ ?_)
    refine cw_ret ?_
    cases h
    exact ex_done (.inl rfl) rfl (fun a w G V hs _ hS => res1 rfl (.tmp 0 rfl) a w G V hS)

theorem f105_fn (N : Nat) (v_t1 : List Node) (v_row2 : List Int) (r : Int) (h : tree_Walk N v_t1 v_row2 = some r) : Fn Go.Proofs.Tryd.prog 105 [SL 6 cNode v_t1, SL 1 cI v_row2] [] (I r) [] := by
  unfold tree_Walk at h
  refine fn_intro [] fun105 rfl rfl (Nat.le_of_ble_eq_true rfl) rfl rfl (fun w G V => ?_)
  show Cw _ _ _ _ [(0, SL 6 cNode v_t1), (1, SL 1 cI v_row2)] []
  refine cw_seq fun K1 hK1 => ?_
  refine cw_region ?_
  refine nx_o (op_assign (Can.int _ _ _)) rfl ?_
  refine nx_nil ?_
  refine Says.ex (S' := [(0, SL 6 cNode v_t1), (1, SL 1 cI v_row2)]) (O' := []) (says_pick [1, 2] [] rfl rfl) ?_
  refine ex_kx (hK1 _ _ ?_)
  refine cw_seq fun K2 hK2 => ?_
  refine cw_region ?_
  refine nx_o (op_assign (Can.int _ _ _)) rfl ?_
  refine nx_nil ?_
  refine ex_kx (hK2 _ _ ?_)
  refine cw_join (fun S O => ∃ (v_i20 : Int), tree_Walk_j1 N v_i20 = some r ∧ S = [(5, I v_i20)] ∧ O = []) ?_ (fun K11 hK11 => ?_)
  · rintro S O ⟨v_i20, h, rfl, rfl⟩
    unfold tree_Walk_j1 at h
    refine cw_seq fun K12 hK12 => ?_
    refine cw_region ?_
    refine nx_o (op_move (.tmp 0 rfl)) rfl ?_
    refine nx_o (op_assign (.tmp 0 rfl)) rfl ?_
    refine nx_nil ?_
    refine Says.ex (S' := [(4, I v_i20)]) (O' := []) (says_pick [0] [] rfl rfl) ?_
    refine ex_kx (hK12 _ _ ?_)
    refine cw_ret ?_
    cases h
    exact ex_done (.inl rfl) rfl (fun a w G V hs _ hS => res1 rfl (.tmp 0 rfl) a w G V hS)
  ·
    refine cw_block ?_
    refine Says.cw (S' := [(0, SL 6 cNode v_t1), (1, SL 1 cI v_row2), (5, I 0)]) (O' := []) (says_pick [1, 2, 0] [] rfl rfl) ?_
    refine cw_loopJ (fun n S O => ∃ (v_i32 : Int), tree_Walk_l1 N v_t1 v_row2 n v_i32 = some r ∧ S = [(0, SL 6 cNode v_t1), (1, SL 1 cI v_row2), (5, I v_i32)] ∧ O = []) ?_ ?_ N ⟨0, h, rfl, rfl⟩
    · rintro S O ⟨v_i32, h, -, -⟩
      simp [tree_Walk_l1] at h
    · rintro n_1 S O ⟨v_i32, h, rfl, rfl⟩ K17 hK17
      rw [tree_Walk_l1] at h
      refine cw_seq fun K18 hK18 => ?_
      refine cw_seq fun K19 hK19 => ?_
      refine cw_region ?_
      refine nx_o (op_move (.tmp 0 rfl)) rfl ?_
      refine nx_o (op_move (.tmp 3 rfl)) rfl ?_
      obtain ⟨v_y33, hv_y33, h⟩ := bnd h
      refine nx_o (op_indexX hv_y33 (.tmp 1 rfl) (.tmp 0 rfl) u29 s28) rfl ?_
      refine nx_o (op_field (.tmp 0 rfl) o28_0) rfl ?_
      refine nx_o (op_load1 (.tmp 0 rfl) a3) rfl ?_
      refine nx_o (op_neq (.tmp 0 rfl) (Can.int _ _ _)) rfl ?_
      refine nx_nil ?_
      refine Says.ex (S' := [(11, B (v_y33.feature != (-1))), (0, SL 6 cNode v_t1), (1, SL 1 cI v_row2), (5, I v_i32)]) (O' := []) (says_pick [0, 6, 7, 8] [] rfl rfl) ?_
      refine ex_kx (hK19 _ _ ?_)
      refine cw_cond (b := (v_y33.feature != (-1))) (.tmp 0 rfl) (fun hc => ?_) (fun hc => ?_)
      · have h := ite_t hc h
        refine cw_skip ?_
        refine ex_kx (hK18 _ _ ?_)
        refine cw_block ?_
        obtain ⟨v_y34, hv_y34, h⟩ := bnd h
        obtain ⟨v_y35, hv_y35, h⟩ := bnd h
        obtain ⟨v_y36, hv_y36, h⟩ := bnd h
        obtain ⟨v_r37, hv_r37, h⟩ := bnd h
        refine cw_draw (Plan.mk [13] [[], [], [0, 1], [0, 1, 2], [], [], [], [5, 6], [5, 6, 7], [5, 6, 7, 8], [4, 5, 6, 7, 8, 9], [4, 5, 6, 7, 8, 9, 10], [0, 1, 2, 3, 4, 5, 6, 7, 8, 9, 10, 11], [0, 1, 2, 3, 4, 5, 6, 7, 8, 9, 10, 11, 12]] [[(11, B (v_y33.feature != (-1))), (0, SL 6 cNode v_t1), (1, SL 1 cI v_row2), (5, I v_i32)], [(5, I v_r37), (11, B (v_y33.feature != (-1))), (0, SL 6 cNode v_t1), (1, SL 1 cI v_row2)]] [[], []] [(12, SL 6 cNode v_t1), (13, I v_i32), (14, .ptr (cNode v_y34)), (15, .agg (cNode v_y34)), (16, SL 1 cI v_row2), (17, SL 6 cNode v_t1), (18, I v_i32), (19, .ptr (cNode v_y35)), (20, .ptr ((cNode v_y35).drop 0)), (21, I v_y35.feature), (22, .ptr (cI v_y36)), (23, I v_y36), (24, I v_r37), (0, .raw undef)]) mixed rfl rfl rfl rfl ?_ ?_ ?_
        · exact (And.intro (fun _ => (And.intro (show OpY _ _ _ [(11, B (v_y33.feature != (-1))), (0, SL 6 cNode v_t1), (1, SL 1 cI v_row2), (5, I v_i32)] [] _ (SL 6 cNode v_t1) [] allp from (OpX.y (op_move (.tmp 1 rfl)) rfl)) trivial)) (And.intro (fun _ => (And.intro (show OpY _ _ _ [(11, B (v_y33.feature != (-1))), (0, SL 6 cNode v_t1), (1, SL 1 cI v_row2), (5, I v_i32)] [] _ (I v_i32) [] allp from (OpX.y (op_move (.tmp 3 rfl)) rfl)) trivial)) (And.intro (fun _ => (And.intro (show OpY _ _ _ [(11, B (v_y33.feature != (-1))), (0, SL 6 cNode v_t1), (1, SL 1 cI v_row2), (5, I v_i32), (12, SL 6 cNode v_t1), (13, I v_i32)] [] _ (.ptr (cNode v_y34)) [] allp from (OpX.y (op_indexX hv_y34 (.tmp 4 rfl) (.tmp 5 rfl) u29 s28) rfl)) trivial)) (And.intro (fun _ => (And.intro (show OpY _ _ _ [(11, B (v_y33.feature != (-1))), (0, SL 6 cNode v_t1), (1, SL 1 cI v_row2), (5, I v_i32), (12, SL 6 cNode v_t1), (13, I v_i32), (14, .ptr (cNode v_y34))] [] _ (.agg (cNode v_y34)) [] allp from (OpX.y (op_loadA (cNode v_y34) (.tmp 6 rfl) a28 s28 rfl) rfl)) trivial)) (And.intro (fun _ => (And.intro (show OpY _ _ _ [(11, B (v_y33.feature != (-1))), (0, SL 6 cNode v_t1), (1, SL 1 cI v_row2), (5, I v_i32)] [] _ (SL 1 cI v_row2) [] allp from (OpX.y (op_move (.tmp 2 rfl)) rfl)) trivial)) (And.intro (fun _ => (And.intro (show OpY _ _ _ [(11, B (v_y33.feature != (-1))), (0, SL 6 cNode v_t1), (1, SL 1 cI v_row2), (5, I v_i32)] [] _ (SL 6 cNode v_t1) [] allp from (OpX.y (op_move (.tmp 1 rfl)) rfl)) trivial)) (And.intro (fun _ => (And.intro (show OpY _ _ _ [(11, B (v_y33.feature != (-1))), (0, SL 6 cNode v_t1), (1, SL 1 cI v_row2), (5, I v_i32)] [] _ (I v_i32) [] allp from (OpX.y (op_move (.tmp 3 rfl)) rfl)) trivial)) (And.intro (fun _ => (And.intro (show OpY _ _ _ [(11, B (v_y33.feature != (-1))), (0, SL 6 cNode v_t1), (1, SL 1 cI v_row2), (5, I v_i32), (17, SL 6 cNode v_t1), (18, I v_i32)] [] _ (.ptr (cNode v_y35)) [] allp from (OpX.y (op_indexX hv_y35 (.tmp 4 rfl) (.tmp 5 rfl) u29 s28) rfl)) trivial)) (And.intro (fun _ => (And.intro (show OpY _ _ _ [(11, B (v_y33.feature != (-1))), (0, SL 6 cNode v_t1), (1, SL 1 cI v_row2), (5, I v_i32), (17, SL 6 cNode v_t1), (18, I v_i32), (19, .ptr (cNode v_y35))] [] _ (.ptr ((cNode v_y35).drop 0)) [] allp from (OpX.y (op_field (.tmp 6 rfl) o28_0) rfl)) trivial)) (And.intro (fun _ => (And.intro (show OpY _ _ _ [(11, B (v_y33.feature != (-1))), (0, SL 6 cNode v_t1), (1, SL 1 cI v_row2), (5, I v_i32), (17, SL 6 cNode v_t1), (18, I v_i32), (19, .ptr (cNode v_y35)), (20, .ptr ((cNode v_y35).drop 0))] [] _ (I v_y35.feature) [] allp from (OpX.y (op_load1 (.tmp 7 rfl) a3) rfl)) trivial)) (And.intro (fun _ => (And.intro (show OpY _ _ _ [(11, B (v_y33.feature != (-1))), (0, SL 6 cNode v_t1), (1, SL 1 cI v_row2), (5, I v_i32), (16, SL 1 cI v_row2), (17, SL 6 cNode v_t1), (18, I v_i32), (19, .ptr (cNode v_y35)), (20, .ptr ((cNode v_y35).drop 0)), (21, I v_y35.feature)] [] _ (.ptr (cI v_y36)) [] allp from (OpX.y (op_indexX hv_y36 (.tmp 4 rfl) (.tmp 9 rfl) u22 s3) rfl)) trivial)) (And.intro (fun _ => (And.intro (show OpY _ _ _ [(11, B (v_y33.feature != (-1))), (0, SL 6 cNode v_t1), (1, SL 1 cI v_row2), (5, I v_i32), (16, SL 1 cI v_row2), (17, SL 6 cNode v_t1), (18, I v_i32), (19, .ptr (cNode v_y35)), (20, .ptr ((cNode v_y35).drop 0)), (21, I v_y35.feature), (22, .ptr (cI v_y36))] [] _ (I v_y36) [] allp from (OpX.y (op_load1 (.tmp 10 rfl) a3) rfl)) trivial)) (And.intro (fun _ => (And.intro (show OpY _ _ _ [(11, B (v_y33.feature != (-1))), (0, SL 6 cNode v_t1), (1, SL 1 cI v_row2), (5, I v_i32), (12, SL 6 cNode v_t1), (13, I v_i32), (14, .ptr (cNode v_y34)), (15, .agg (cNode v_y34)), (16, SL 1 cI v_row2), (17, SL 6 cNode v_t1), (18, I v_i32), (19, .ptr (cNode v_y35)), (20, .ptr ((cNode v_y35).drop 0)), (21, I v_y35.feature), (22, .ptr (cI v_y36)), (23, I v_y36)] [] _ (I v_r37) [] allp from (OpX.y (op_call0 (show Fn Go.Proofs.Tryd.prog 153 [.agg (cNode v_y34), I v_y36] [] (I v_r37) [] from (f153_fn N v_y34 v_y36 _ hv_r37)) c153 (.cons (.tmp 7 rfl) (.cons (.tmp 15 rfl) .nil))) rfl)) trivial)) (And.intro (fun hn => (Bool.false_ne_true (hn.symm.trans rfl)).elim) trivial))))))))))))))
        · exact (And.intro (fun o ho => by obtain rfl := Option.some.inj ho; exact ⟨⟨_, (I v_r37), [0, 1, 2], (OpY.to (show OpY _ _ _ [(11, B (v_y33.feature != (-1))), (0, SL 6 cNode v_t1), (1, SL 1 cI v_row2), (5, I v_i32), (12, SL 6 cNode v_t1), (13, I v_i32), (14, .ptr (cNode v_y34)), (15, .agg (cNode v_y34)), (16, SL 1 cI v_row2), (17, SL 6 cNode v_t1), (18, I v_i32), (19, .ptr (cNode v_y35)), (20, .ptr ((cNode v_y35).drop 0)), (21, I v_y35.feature), (22, .ptr (cI v_y36)), (23, I v_y36), (24, I v_r37)] [] _ (I v_r37) _ _ from (OpX.y (op_assign (.tmp 16 rfl)) rfl)) rfl), rfl, rfl⟩⟩) trivial)
        show Ex _ _ _ [(5, I v_r37), (11, B (v_y33.feature != (-1))), (0, SL 6 cNode v_t1), (1, SL 1 cI v_row2), (12, SL 6 cNode v_t1), (13, I v_i32), (14, .ptr (cNode v_y34)), (15, .agg (cNode v_y34)), (16, SL 1 cI v_row2), (17, SL 6 cNode v_t1), (18, I v_i32), (19, .ptr (cNode v_y35)), (20, .ptr ((cNode v_y35).drop 0)), (21, I v_y35.feature), (22, .ptr (cI v_y36)), (23, I v_y36), (24, I v_r37)] []
        refine Says.ex (S' := [(5, I v_r37), (0, SL 6 cNode v_t1), (1, SL 1 cI v_row2)]) (O' := []) (says_pick [0, 2, 3] [] rfl rfl) ?_
        refine ex_bn ?_
        refine ex_kx ?_
        refine Says.kx (S' := [(0, SL 6 cNode v_t1), (1, SL 1 cI v_row2), (5, I v_r37)]) (O' := []) (says_pick [1, 2, 0] [] rfl rfl) ?_
        exact hK17 _ _ ⟨v_r37, h, rfl, rfl⟩
      · have h := ite_f hc h
        refine cw_exit ?_
        refine ex_te ?_
        refine ex_te ?_
        refine ex_be ?_
        refine ex_kx ?_
        refine Says.kx (S' := [(5, I v_i32)]) (O' := []) (says_pick [3] [] rfl rfl) ?_
        exact hK11 _ _ ⟨v_i32, h, rfl, rfl⟩

theorem f49_fn (N : Nat) (v_t1 : List Node) (v_l2 : List Sample) (r : Int × (Option Int)) (h : grow_Wrong N v_t1 v_l2 = some r) : Fn Go.Proofs.Tryd.prog 49 [SL 6 cNode v_t1, SL 2 cSample v_l2] [] (.tup [I r.1, Er TE r.2]) [] := by
  unfold grow_Wrong at h
  refine fn_intro [] fun49 rfl rfl (Nat.le_of_ble_eq_true rfl) rfl rfl (fun w G V => ?_)
  show Cw _ _ _ _ [(0, SL 6 cNode v_t1), (1, SL 2 cSample v_l2)] []
  refine cw_seq fun K1 hK1 => ?_
  refine cw_region ?_
  refine nx_o (op_assign (Can.int _ _ _)) rfl ?_
  refine nx_o (op_assign (Can.nilE _ TE)) rfl ?_
  refine nx_nil ?_
  refine Says.ex (S' := [(0, SL 6 cNode v_t1), (1, SL 2 cSample v_l2)]) (O' := []) (says_pick [2, 3] [] rfl rfl) ?_
  refine ex_kx (hK1 _ _ ?_)
  refine cw_seq fun K2 hK2 => ?_
  refine cw_seq fun K3 hK3 => ?_
  refine cw_region ?_
  refine nx_o (op_move (.tmp 0 rfl)) rfl ?_
  refine nx_o (op_move (.tmp 2 rfl)) rfl ?_
  obtain ⟨v_r3, hv_r3, h⟩ := bnd h
  refine nx_o (op_call0 (show Fn Go.Proofs.Tryd.prog 89 [SL 6 cNode v_t1, SL 2 cSample v_l2] [] (Er TE v_r3) [] from (f89_fn N v_t1 v_l2 _ hv_r3)) c89 (.cons (.tmp 1 rfl) (.cons (.tmp 0 rfl) .nil))) rfl ?_
  refine nx_o (op_assign (.tmp 0 rfl)) rfl ?_
  refine nx_nil ?_
  refine Says.ex (S' := [(6, Er TE v_r3), (0, SL 6 cNode v_t1), (1, SL 2 cSample v_l2)]) (O' := []) (says_pick [0, 4, 5] [] rfl rfl) ?_
  refine ex_kx (hK3 _ _ ?_)
  refine cw_seq fun K4 hK4 => ?_
  refine cw_region ?_
  refine nx_o (op_move (.tmp 0 rfl)) rfl ?_
  refine nx_o (op_neqNil (.tmp 0 rfl) u32) rfl ?_
  refine nx_nil ?_
  refine Says.ex (S' := [(15, B v_r3.isSome), (6, Er TE v_r3), (0, SL 6 cNode v_t1), (1, SL 2 cSample v_l2)]) (O' := []) (says_pick [0, 2, 3, 4] [] rfl rfl) ?_
  refine ex_kx (hK4 _ _ ?_)
  refine cw_cond (b := v_r3.isSome) (.tmp 0 rfl) (fun hc => ?_) (fun hc => ?_)
  · have h := ite_t hc h
    refine cw_seq fun K5 hK5 => ?_
    refine cw_region ?_
    refine nx_o (op_move (.tmp 1 rfl)) rfl ?_
    refine nx_o (op_assign (Can.int _ _ _)) rfl ?_
    refine nx_o (op_assign (.tmp 1 rfl)) rfl ?_
    refine nx_nil ?_
    refine Says.ex (S' := [(5, Er TE v_r3), (4, I 0)]) (O' := []) (says_pick [0, 1] [] rfl rfl) ?_
    refine ex_kx (hK5 _ _ ?_)
    refine cw_ret ?_
    refine ex_tr ?_
    cases h
    refine Says.ex (S' := [(4, I 0), (5, Er TE v_r3)]) (O' := []) (says_pick [1, 0] [] rfl rfl) ?_
    exact ex_done (.inl rfl) rfl (fun a w G V hs _ hS => resM rfl (.tmp (.tmp 0 rfl) (.tmp (.tmp 1 rfl) .nil)) a w G V hs hS)
  · have h := ite_f hc h
    refine cw_skip ?_
    refine ex_kx (hK2 _ _ ?_)
    refine cw_seq fun K6 hK6 => ?_
    refine cw_region ?_
    refine nx_o (op_assign (Can.int _ _ _)) rfl ?_
    refine nx_nil ?_
    refine Says.ex (S' := [(7, I 0), (0, SL 6 cNode v_t1), (1, SL 2 cSample v_l2)]) (O' := []) (says_pick [0, 3, 4] [] rfl rfl) ?_
    refine ex_kx (hK6 _ _ ?_)
    refine cw_join (fun S O => ∃ (v_n20 : Int), grow_Wrong_j1 N v_n20 = some r ∧ S = [(7, I v_n20)] ∧ O = []) ?_ (fun K25 hK25 => ?_)
    · rintro S O ⟨v_n20, h, rfl, rfl⟩
      unfold grow_Wrong_j1 at h
      refine cw_seq fun K26 hK26 => ?_
      refine cw_region ?_
      refine nx_o (op_move (.tmp 0 rfl)) rfl ?_
      refine nx_o (op_assign (.tmp 0 rfl)) rfl ?_
      refine nx_o (op_assign (Can.nilE _ TE)) rfl ?_
      refine nx_nil ?_
      refine Says.ex (S' := [(5, Er TE none), (4, I v_n20)]) (O' := []) (says_pick [0, 1] [] rfl rfl) ?_
      refine ex_kx (hK26 _ _ ?_)
      refine cw_ret ?_
      cases h
      refine Says.ex (S' := [(4, I v_n20), (5, Er TE none)]) (O' := []) (says_pick [1, 0] [] rfl rfl) ?_
      exact ex_done (.inl rfl) rfl (fun a w G V hs _ hS => resM rfl (.tmp (.tmp 0 rfl) (.tmp (.tmp 1 rfl) .nil)) a w G V hs hS)
    ·
      refine cw_seq fun K27 hK27 => ?_
      refine cw_region ?_
      refine nx_o (op_move (.tmp 2 rfl)) rfl ?_
      refine nx_o (op_len (.tmp 0 rfl) u50) rfl ?_
      refine nx_o (op_move (Can.int _ _ _)) rfl ?_
      refine nx_nil ?_
      refine Says.ex (S' := [(19, I 0), (18, I (v_l2.length : Int)), (17, SL 2 cSample v_l2), (7, I 0), (0, SL 6 cNode v_t1)]) (O' := []) (says_pick [0, 1, 2, 3, 4] [] rfl rfl) ?_
      refine ex_kx (hK27 _ _ ?_)
      refine cw_block ?_
      refine Says.cw (S' := [(0, SL 6 cNode v_t1), (7, I 0), (17, SL 2 cSample v_l2), (18, I (v_l2.length : Int)), (19, I 0)]) (O' := []) (says_pick [4, 3, 2, 1, 0] [] rfl rfl) ?_
      refine cw_loopJ (fun n S O => ∃ (v_n31 : Int) (v_t32 : Int), grow_Wrong_l1 N v_l2 v_t1 n v_n31 v_t32 = some r ∧ S = [(0, SL 6 cNode v_t1), (7, I v_n31), (17, SL 2 cSample v_l2), (18, I (v_l2.length : Int)), (19, I v_t32)] ∧ O = []) ?_ ?_ N ⟨0, 0, h, rfl, rfl⟩
      · rintro S O ⟨v_n31, v_t32, h, -, -⟩
        simp [grow_Wrong_l1] at h
      · rintro n_1 S O ⟨v_n31, v_t32, h, rfl, rfl⟩ K38 hK38
        rw [grow_Wrong_l1] at h
        refine cw_seq fun K39 hK39 => ?_
        refine cw_region ?_
        refine nx_o (op_lss (.tmp 4 rfl) (.tmp 3 rfl)) rfl ?_
        refine nx_nil ?_
        refine ex_kx (hK39 _ _ ?_)
        refine cw_seq fun K40 hK40 => ?_
        refine cw_cond (b := (decide (v_t32 < (v_l2.length : Int)))) (.tmp 0 rfl) (fun hc => ?_) (fun hc => ?_)
        · have h := ite_t hc h
          refine cw_skip ?_
          refine ex_kx (hK40 _ _ ?_)
          refine cw_seq fun K41 hK41 => ?_
          refine cw_block ?_
          refine cw_seq fun K42 hK42 => ?_
          refine cw_region ?_
          obtain ⟨v_y33, hv_y33, h⟩ := bnd h
          refine nx_o (op_indexX hv_y33 (.tmp 3 rfl) (.tmp 5 rfl) u50 s146) rfl ?_
          refine nx_o (op_loadA (cSample v_y33) (.tmp 0 rfl) a146 s146 rfl) rfl ?_
          refine nx_op (op_alloc 106 (cSample (Sample.mk [] 0)) za146 zSample rfl) rfl ?_
          show Nx _ _ _ _ _ [(9, .ref 106), (22, .agg (cSample v_y33)), (21, .ptr (cSample v_y33)), (20, B (decide (v_t32 < (v_l2.length : Int)))), (0, SL 6 cNode v_t1), (7, I v_n31), (17, SL 2 cSample v_l2), (18, I (v_l2.length : Int)), (19, I v_t32)] [(106, .var 146 [SL 1 cI [], I 0])]
          refine nx_o0 (op_storeVA (its := (cSample v_y33)) (.tmp 0 rfl) 0 rfl (.agg (.tmp 1 rfl)) rfl s146) ?_
          show Nx _ _ _ _ _ [(9, .ref 106), (22, .agg (cSample v_y33)), (21, .ptr (cSample v_y33)), (20, B (decide (v_t32 < (v_l2.length : Int)))), (0, SL 6 cNode v_t1), (7, I v_n31), (17, SL 2 cSample v_l2), (18, I (v_l2.length : Int)), (19, I v_t32)] [(106, .var 146 [SL 1 cI v_y33.row, I v_y33.target])]
          refine nx_nil ?_
          refine Says.ex (S' := [(9, .ref 106), (0, SL 6 cNode v_t1), (7, I v_n31), (17, SL 2 cSample v_l2), (18, I (v_l2.length : Int)), (19, I v_t32)]) (O' := [(106, .var 146 [SL 1 cI v_y33.row, I v_y33.target])]) (says_pick [0, 4, 5, 6, 7, 8] [0] rfl rfl) ?_
          refine ex_kx (hK42 _ _ ?_)
          refine cw_seq fun K43 hK43 => ?_
          obtain ⟨v_r34, hv_r34, h⟩ := bnd h
          obtain ⟨v_y35, hv_y35, h⟩ := bnd h
          refine cw_draw (Plan.mk [] [[], [0], [], [], [], [4], [3, 4, 5], [2, 3, 4, 5, 6], [2, 3, 4, 5, 6, 7], [2, 3, 4, 5, 6, 7, 8], [0, 1, 2, 3, 4, 5, 6, 7, 8, 9], [0, 1, 2, 3, 4, 5, 6, 7, 8, 9, 10]] [[(9, .ref 106), (0, SL 6 cNode v_t1), (7, I v_n31), (17, SL 2 cSample v_l2), (18, I (v_l2.length : Int)), (19, I v_t32)]] [[(106, .var 146 [SL 1 cI v_y33.row, I v_y33.target])]] [(23, .pt 106 1), (24, I v_y33.target), (25, SL 6 cNode v_t1), (26, SL 6 cNode v_t1), (27, .pt 106 0), (28, SL 1 cI v_y33.row), (29, I v_r34), (30, .ptr (cNode v_y35)), (31, .ptr ((cNode v_y35).drop 5)), (32, I v_y35.value), (33, I (w64 (v_y33.target - v_y35.value))), (10, I (w64 (v_y33.target - v_y35.value)))]) mixed rfl rfl rfl rfl ?_ ?_ ?_
          · exact (And.intro (fun _ => (And.intro (show OpY _ _ _ [(9, .ref 106), (0, SL 6 cNode v_t1), (7, I v_n31), (17, SL 2 cSample v_l2), (18, I (v_l2.length : Int)), (19, I v_t32)] [(106, .var 146 [SL 1 cI v_y33.row, I v_y33.target])] _ (.pt 106 1) [(106, .var 146 [SL 1 cI v_y33.row, I v_y33.target])] allp from (OpX.y (op_fieldVar (.tmp 0 rfl) 0 rfl o146_1) rfl)) trivial)) (And.intro (fun _ => (And.intro (show OpY _ _ _ [(9, .ref 106), (0, SL 6 cNode v_t1), (7, I v_n31), (17, SL 2 cSample v_l2), (18, I (v_l2.length : Int)), (19, I v_t32), (23, .pt 106 1)] [(106, .var 146 [SL 1 cI v_y33.row, I v_y33.target])] _ (I v_y33.target) [(106, .var 146 [SL 1 cI v_y33.row, I v_y33.target])] allp from (OpX.y (op_loadV (.tmp 6 rfl) 0 rfl rfl a3) rfl)) trivial)) (And.intro (fun _ => (And.intro (show OpY _ _ _ [(9, .ref 106), (0, SL 6 cNode v_t1), (7, I v_n31), (17, SL 2 cSample v_l2), (18, I (v_l2.length : Int)), (19, I v_t32)] [(106, .var 146 [SL 1 cI v_y33.row, I v_y33.target])] _ (SL 6 cNode v_t1) [(106, .var 146 [SL 1 cI v_y33.row, I v_y33.target])] allp from (OpX.y (op_move (.tmp 1 rfl)) rfl)) trivial)) (And.intro (fun _ => (And.intro (show OpY _ _ _ [(9, .ref 106), (0, SL 6 cNode v_t1), (7, I v_n31), (17, SL 2 cSample v_l2), (18, I (v_l2.length : Int)), (19, I v_t32)] [(106, .var 146 [SL 1 cI v_y33.row, I v_y33.target])] _ (SL 6 cNode v_t1) [(106, .var 146 [SL 1 cI v_y33.row, I v_y33.target])] allp from (OpX.y (op_move (.tmp 1 rfl)) rfl)) trivial)) (And.intro (fun _ => (And.intro (show OpY _ _ _ [(9, .ref 106), (0, SL 6 cNode v_t1), (7, I v_n31), (17, SL 2 cSample v_l2), (18, I (v_l2.length : Int)), (19, I v_t32)] [(106, .var 146 [SL 1 cI v_y33.row, I v_y33.target])] _ (.pt 106 0) [(106, .var 146 [SL 1 cI v_y33.row, I v_y33.target])] allp from (OpX.y (op_fieldVar (.tmp 0 rfl) 0 rfl o146_0) rfl)) trivial)) (And.intro (fun _ => (And.intro (show OpY _ _ _ [(9, .ref 106), (0, SL 6 cNode v_t1), (7, I v_n31), (17, SL 2 cSample v_l2), (18, I (v_l2.length : Int)), (19, I v_t32), (27, .pt 106 0)] [(106, .var 146 [SL 1 cI v_y33.row, I v_y33.target])] _ (SL 1 cI v_y33.row) [(106, .var 146 [SL 1 cI v_y33.row, I v_y33.target])] allp from (OpX.y (op_loadV (.tmp 6 rfl) 0 rfl rfl a22) rfl)) trivial)) (And.intro (fun _ => (And.intro (show OpY _ _ _ [(9, .ref 106), (0, SL 6 cNode v_t1), (7, I v_n31), (17, SL 2 cSample v_l2), (18, I (v_l2.length : Int)), (19, I v_t32), (26, SL 6 cNode v_t1), (27, .pt 106 0), (28, SL 1 cI v_y33.row)] [(106, .var 146 [SL 1 cI v_y33.row, I v_y33.target])] _ (I v_r34) [(106, .var 146 [SL 1 cI v_y33.row, I v_y33.target])] allp from (OpX.y (op_call0 (show Fn Go.Proofs.Tryd.prog 105 [SL 6 cNode v_t1, SL 1 cI v_y33.row] [] (I v_r34) [] from (f105_fn N v_t1 v_y33.row _ hv_r34)) c105 (.cons (.tmp 6 rfl) (.cons (.tmp 8 rfl) .nil))) rfl)) trivial)) (And.intro (fun _ => (And.intro (show OpY _ _ _ [(9, .ref 106), (0, SL 6 cNode v_t1), (7, I v_n31), (17, SL 2 cSample v_l2), (18, I (v_l2.length : Int)), (19, I v_t32), (25, SL 6 cNode v_t1), (26, SL 6 cNode v_t1), (27, .pt 106 0), (28, SL 1 cI v_y33.row), (29, I v_r34)] [(106, .var 146 [SL 1 cI v_y33.row, I v_y33.target])] _ (.ptr (cNode v_y35)) [(106, .var 146 [SL 1 cI v_y33.row, I v_y33.target])] allp from (OpX.y (op_indexX hv_y35 (.tmp 6 rfl) (.tmp 10 rfl) u29 s28) rfl)) trivial)) (And.intro (fun _ => (And.intro (show OpY _ _ _ [(9, .ref 106), (0, SL 6 cNode v_t1), (7, I v_n31), (17, SL 2 cSample v_l2), (18, I (v_l2.length : Int)), (19, I v_t32), (25, SL 6 cNode v_t1), (26, SL 6 cNode v_t1), (27, .pt 106 0), (28, SL 1 cI v_y33.row), (29, I v_r34), (30, .ptr (cNode v_y35))] [(106, .var 146 [SL 1 cI v_y33.row, I v_y33.target])] _ (.ptr ((cNode v_y35).drop 5)) [(106, .var 146 [SL 1 cI v_y33.row, I v_y33.target])] allp from (OpX.y (op_field (.tmp 11 rfl) o28_5) rfl)) trivial)) (And.intro (fun _ => (And.intro (show OpY _ _ _ [(9, .ref 106), (0, SL 6 cNode v_t1), (7, I v_n31), (17, SL 2 cSample v_l2), (18, I (v_l2.length : Int)), (19, I v_t32), (25, SL 6 cNode v_t1), (26, SL 6 cNode v_t1), (27, .pt 106 0), (28, SL 1 cI v_y33.row), (29, I v_r34), (30, .ptr (cNode v_y35)), (31, .ptr ((cNode v_y35).drop 5))] [(106, .var 146 [SL 1 cI v_y33.row, I v_y33.target])] _ (I v_y35.value) [(106, .var 146 [SL 1 cI v_y33.row, I v_y33.target])] allp from (OpX.y (op_load1 (.tmp 12 rfl) a3) rfl)) trivial)) (And.intro (fun _ => (And.intro (show OpY _ _ _ [(9, .ref 106), (0, SL 6 cNode v_t1), (7, I v_n31), (17, SL 2 cSample v_l2), (18, I (v_l2.length : Int)), (19, I v_t32), (23, .pt 106 1), (24, I v_y33.target), (25, SL 6 cNode v_t1), (26, SL 6 cNode v_t1), (27, .pt 106 0), (28, SL 1 cI v_y33.row), (29, I v_r34), (30, .ptr (cNode v_y35)), (31, .ptr ((cNode v_y35).drop 5)), (32, I v_y35.value)] [(106, .var 146 [SL 1 cI v_y33.row, I v_y33.target])] _ (I (w64 (v_y33.target - v_y35.value))) [(106, .var 146 [SL 1 cI v_y33.row, I v_y33.target])] allp from (OpX.y (op_sub (.tmp 7 rfl) (.tmp 15 rfl)) rfl)) trivial)) (And.intro (fun _ => (And.intro (show OpY _ _ _ [(9, .ref 106), (0, SL 6 cNode v_t1), (7, I v_n31), (17, SL 2 cSample v_l2), (18, I (v_l2.length : Int)), (19, I v_t32), (23, .pt 106 1), (24, I v_y33.target), (25, SL 6 cNode v_t1), (26, SL 6 cNode v_t1), (27, .pt 106 0), (28, SL 1 cI v_y33.row), (29, I v_r34), (30, .ptr (cNode v_y35)), (31, .ptr ((cNode v_y35).drop 5)), (32, I v_y35.value), (33, I (w64 (v_y33.target - v_y35.value)))] [(106, .var 146 [SL 1 cI v_y33.row, I v_y33.target])] _ (I (w64 (v_y33.target - v_y35.value))) [(106, .var 146 [SL 1 cI v_y33.row, I v_y33.target])] allp from (OpX.y (op_assign (.tmp 16 rfl)) rfl)) trivial)) trivial))))))))))))
          · exact trivial
          show Ex _ _ _ [(9, .ref 106), (0, SL 6 cNode v_t1), (7, I v_n31), (17, SL 2 cSample v_l2), (18, I (v_l2.length : Int)), (19, I v_t32), (23, .pt 106 1), (24, I v_y33.target), (25, SL 6 cNode v_t1), (26, SL 6 cNode v_t1), (27, .pt 106 0), (28, SL 1 cI v_y33.row), (29, I v_r34), (30, .ptr (cNode v_y35)), (31, .ptr ((cNode v_y35).drop 5)), (32, I v_y35.value), (33, I (w64 (v_y33.target - v_y35.value))), (10, I (w64 (v_y33.target - v_y35.value)))] [(106, .var 146 [SL 1 cI v_y33.row, I v_y33.target])]
          refine Says.ex (S' := [(0, SL 6 cNode v_t1), (7, I v_n31), (17, SL 2 cSample v_l2), (18, I (v_l2.length : Int)), (19, I v_t32), (10, I (w64 (v_y33.target - v_y35.value)))]) (O' := []) (says_pick [1, 2, 3, 4, 5, 17] [] rfl rfl) ?_
          refine ex_kx (hK43 _ _ ?_)
          refine cw_region ?_
          refine nx_o (op_move (.tmp 1 rfl)) rfl ?_
          refine nx_o (op_move (.tmp 6 rfl)) rfl ?_
          refine nx_o (op_move (.tmp 7 rfl)) rfl ?_
          obtain ⟨v_t36, hv_t36, h⟩ := bnd h
          refine nx_o (OpX.named hv_t36 (op_mul (.tmp 1 rfl) (.tmp 0 rfl))) rfl ?_
          refine nx_o (op_add (.tmp 3 rfl) (.tmp 0 rfl)) rfl ?_
          refine nx_k [0, 1, 2, 3, 4, 5, 7, 8, 9, 10] (op_assign (.tmp 0 rfl)) rfl rfl ?_
          show Nx _ _ _ _ _ [(7, I (w64 (v_n31 + v_t36))), (38, I (w64 (v_n31 + v_t36))), (37, I v_t36), (36, I (w64 (v_y33.target - v_y35.value))), (35, I (w64 (v_y33.target - v_y35.value))), (34, I v_n31), (0, SL 6 cNode v_t1), (17, SL 2 cSample v_l2), (18, I (v_l2.length : Int)), (19, I v_t32), (10, I (w64 (v_y33.target - v_y35.value)))] []
          refine nx_nil ?_
          refine Says.ex (S' := [(7, I (w64 (v_n31 + v_t36))), (0, SL 6 cNode v_t1), (17, SL 2 cSample v_l2), (18, I (v_l2.length : Int)), (19, I v_t32)]) (O' := []) (says_pick [0, 6, 7, 8, 9] [] rfl rfl) ?_
          refine ex_bn ?_
          refine ex_kx (hK41 _ _ ?_)
          refine cw_region ?_
          refine nx_o (op_add (.tmp 4 rfl) (Can.int _ _ _)) rfl ?_
          refine nx_k [0, 1, 2, 3, 4] (op_move (.tmp 0 rfl)) rfl rfl ?_
          show Nx _ _ _ _ _ [(19, I (w64 (v_t32 + 1))), (39, I (w64 (v_t32 + 1))), (7, I (w64 (v_n31 + v_t36))), (0, SL 6 cNode v_t1), (17, SL 2 cSample v_l2), (18, I (v_l2.length : Int))] []
          refine nx_nil ?_
          refine Says.ex (S' := [(19, I (w64 (v_t32 + 1))), (7, I (w64 (v_n31 + v_t36))), (0, SL 6 cNode v_t1), (17, SL 2 cSample v_l2), (18, I (v_l2.length : Int))]) (O' := []) (says_pick [0, 2, 3, 4, 5] [] rfl rfl) ?_
          refine ex_kx ?_
          refine Says.kx (S' := [(0, SL 6 cNode v_t1), (7, I (w64 (v_n31 + v_t36))), (17, SL 2 cSample v_l2), (18, I (v_l2.length : Int)), (19, I (w64 (v_t32 + 1)))]) (O' := []) (says_pick [2, 1, 3, 4, 0] [] rfl rfl) ?_
          exact hK38 _ _ ⟨w64 (v_n31 + v_t36), w64 (v_t32 + 1), h, rfl, rfl⟩
        · have h := ite_f hc h
          refine cw_exit ?_
          refine ex_te ?_
          refine ex_te ?_
          refine ex_be ?_
          refine ex_kx ?_
          refine Says.kx (S' := [(7, I v_n31)]) (O' := []) (says_pick [2] [] rfl rfl) ?_
          exact hK25 _ _ ⟨v_n31, h, rfl, rfl⟩

theorem f7_fn (N : Nat) (v_a1 : List Sample) (v_a2 : Int) (v_a3 : Int) (v_a4 : Int) (v_a5 : List Node) (r : Bool) (h : orchlaw2_GrowTells N v_a1 v_a2 v_a3 v_a4 v_a5 = some r) : Fn Go.Proofs.Tryd.prog 7 [SL 2 cSample v_a1, I v_a2, I v_a3, I v_a4, SL 6 cNode v_a5] [] (B r) [] := by
  unfold orchlaw2_GrowTells at h
  refine fn_intro [] fun7 rfl rfl (Nat.le_of_ble_eq_true rfl) rfl rfl (fun w G V => ?_)
  show Cw _ _ _ _ [(0, SL 2 cSample v_a1), (1, I v_a2), (2, I v_a3), (3, I v_a4), (4, SL 6 cNode v_a5)] []
  refine cw_seq fun K1 hK1 => ?_
  refine cw_region ?_
  refine nx_o (op_assign (Can.bool _ _)) rfl ?_
  refine nx_nil ?_
  refine Says.ex (S' := [(0, SL 2 cSample v_a1), (1, I v_a2), (2, I v_a3), (3, I v_a4), (4, SL 6 cNode v_a5)]) (O' := []) (says_pick [1, 2, 3, 4, 5] [] rfl rfl) ?_
  refine ex_kx (hK1 _ _ ?_)
  refine cw_seq fun K2 hK2 => ?_
  refine cw_region ?_
  refine nx_o (op_move (.tmp 0 rfl)) rfl ?_
  refine nx_o (op_move (.tmp 2 rfl)) rfl ?_
  obtain ⟨v_r6, hv_r6, h⟩ := bnd h
  refine nx_o (op_call0 (show Fn Go.Proofs.Tryd.prog 41 [SL 2 cSample v_a1, I v_a2] [] (.tup [I v_r6.1, I v_r6.2]) [] from (f41_fn N v_a1 v_a2 _ hv_r6)) c41 (.cons (.tmp 1 rfl) (.cons (.tmp 0 rfl) .nil))) rfl ?_
  refine nx_o (op_move (.tmp 0 rfl)) rfl ?_
  refine nx_o (op_extract (.tmp 0 rfl) rfl) rfl ?_
  refine nx_o (op_extract (.tmp 1 rfl) rfl) rfl ?_
  refine nx_o (op_assign (.tmp 1 rfl)) rfl ?_
  refine nx_o (op_assign (.tmp 1 rfl)) rfl ?_
  refine nx_nil ?_
  refine Says.ex (S' := [(12, I v_r6.2), (11, I v_r6.1), (0, SL 2 cSample v_a1), (1, I v_a2), (2, I v_a3), (3, I v_a4), (4, SL 6 cNode v_a5)]) (O' := []) (says_pick [0, 1, 8, 9, 10, 11, 12] [] rfl rfl) ?_
  refine ex_kx (hK2 _ _ ?_)
  refine cw_seq fun K3 hK3 => ?_
  refine cw_region ?_
  refine nx_o (op_move (.tmp 2 rfl)) rfl ?_
  refine nx_o (op_move (.tmp 4 rfl)) rfl ?_
  obtain ⟨v_r7, hv_r7, h⟩ := bnd h
  refine nx_o (op_call0 (show Fn Go.Proofs.Tryd.prog 42 [SL 2 cSample v_a1, I v_a2] [] (.tup [I v_r7.1, Er TE v_r7.2]) [] from (f42_fn N v_a1 v_a2 _ hv_r7)) c42 (.cons (.tmp 1 rfl) (.cons (.tmp 0 rfl) .nil))) rfl ?_
  refine nx_o (op_move (.tmp 0 rfl)) rfl ?_
  refine nx_o (op_extract (.tmp 0 rfl) rfl) rfl ?_
  refine nx_o (op_extract (.tmp 1 rfl) rfl) rfl ?_
  refine nx_o (op_assign (.tmp 1 rfl)) rfl ?_
  refine nx_o (op_assign (.tmp 1 rfl)) rfl ?_
  refine nx_nil ?_
  refine Says.ex (S' := [(14, Er TE v_r7.2), (13, I v_r7.1), (12, I v_r6.2), (11, I v_r6.1), (0, SL 2 cSample v_a1), (1, I v_a2), (2, I v_a3), (3, I v_a4), (4, SL 6 cNode v_a5)]) (O' := []) (says_pick [0, 1, 8, 9, 10, 11, 12, 13, 14] [] rfl rfl) ?_
  refine ex_kx (hK3 _ _ ?_)
  refine cw_seq fun K4 hK4 => ?_
  refine cw_region ?_
  refine nx_o (op_move (.tmp 0 rfl)) rfl ?_
  refine nx_o (op_move (.tmp 3 rfl)) rfl ?_
  obtain ⟨v_r8, hv_r8, h⟩ := bnd h
  refine nx_o (op_call0 (show Fn Go.Proofs.Tryd.prog 13 [Er TE v_r7.2, I v_r6.2] [] (B v_r8) [] from (f13_fn N v_r7.2 v_r6.2 _ hv_r8)) c13 (.cons (.tmp 1 rfl) (.cons (.tmp 0 rfl) .nil))) rfl ?_
  refine nx_o (op_assign (.tmp 0 rfl)) rfl ?_
  refine nx_nil ?_
  refine Says.ex (S' := [(15, B v_r8), (13, I v_r7.1), (12, I v_r6.2), (11, I v_r6.1), (0, SL 2 cSample v_a1), (1, I v_a2), (2, I v_a3), (3, I v_a4), (4, SL 6 cNode v_a5)]) (O' := []) (says_pick [0, 5, 6, 7, 8, 9, 10, 11, 12] [] rfl rfl) ?_
  refine ex_kx (hK4 _ _ ?_)
  refine cw_seq fun K5 hK5 => ?_
  refine cw_seq fun K6 hK6 => ?_
  refine cw_region ?_
  refine nx_o (op_move (.tmp 0 rfl)) rfl ?_
  refine nx_o (op_not (.tmp 0 rfl)) rfl ?_
  refine nx_o (op_move (.tmp 0 rfl)) rfl ?_
  refine nx_g (opy_guard (cc := (!(!v_r8))) (.plain 0 rfl) rfl rfl (fun hg => (op_move (.tmp 4 rfl)))) rfl ?_
  refine nx_g (opy_guard (cc := (!(!v_r8))) (.plain 1 rfl) rfl rfl (fun hg => (op_move (.tmp 7 rfl)))) rfl ?_
  refine nx_g (opy_guard (cc := (!(!v_r8))) (.plain 2 rfl) rfl rfl (fun hg => (op_neq (.cd 1 rfl hg) (.cd 0 rfl hg)))) rfl ?_
  refine nx_o (op_or (.tmp 3 rfl) (fun hp => (.cd 0 rfl (not_t hp)))) rfl ?_
  refine nx_nil ?_
  refine Says.ex (S' := [(53, B ((!v_r8) || (v_r7.1 != v_r6.1))), (12, I v_r6.2), (0, SL 2 cSample v_a1), (1, I v_a2), (2, I v_a3), (3, I v_a4), (4, SL 6 cNode v_a5)]) (O' := []) (says_pick [0, 9, 11, 12, 13, 14, 15] [] rfl rfl) ?_
  refine ex_kx (hK6 _ _ ?_)
  refine cw_cond (b := ((!v_r8) || (v_r7.1 != v_r6.1))) (.tmp 0 rfl) (fun hc => ?_) (fun hc => ?_)
  · have h := ite_t hc h
    refine cw_seq fun K7 hK7 => ?_
    refine cw_region ?_
    refine nx_o (op_assign (Can.bool _ _)) rfl ?_
    refine nx_nil ?_
    refine Says.ex (S' := [(10, B false)]) (O' := []) (says_pick [0] [] rfl rfl) ?_
    refine ex_kx (hK7 _ _ ?_)
    refine cw_ret ?_
    refine ex_tr ?_
    cases h
    exact ex_done (.inl rfl) rfl (fun a w G V hs _ hS => res1 rfl (.tmp 0 rfl) a w G V hS)
  · have h := ite_f hc h
    refine cw_skip ?_
    refine ex_kx (hK5 _ _ ?_)
    refine cw_seq fun K8 hK8 => ?_
    refine cw_region ?_
    refine nx_o (op_move (.tmp 1 rfl)) rfl ?_
    refine nx_o (op_assign (.tmp 0 rfl)) rfl ?_
    refine nx_nil ?_
    refine Says.ex (S' := [(16, I v_r6.2), (12, I v_r6.2), (0, SL 2 cSample v_a1), (1, I v_a2), (2, I v_a3), (3, I v_a4), (4, SL 6 cNode v_a5)]) (O' := []) (says_pick [0, 3, 4, 5, 6, 7, 8] [] rfl rfl) ?_
    refine ex_kx (hK8 _ _ ?_)
    refine cw_join (fun S O => ∃ (v_t9 : Int), orchlaw2_GrowTells_j1 N v_a1 v_a2 v_a4 v_r6 v_a3 v_a5 v_t9 = some r ∧ S = [(0, SL 2 cSample v_a1), (1, I v_a2), (2, I v_a3), (3, I v_a4), (4, SL 6 cNode v_a5), (12, I v_r6.2), (16, I v_t9)] ∧ O = []) ?_ (fun K10 hK10 => ?_)
    · rintro S O ⟨v_t9, h, rfl, rfl⟩
      unfold orchlaw2_GrowTells_j1 at h
      refine cw_seq fun K11 hK11 => ?_
      refine cw_region ?_
      refine nx_o (op_assign (Can.int _ _ _)) rfl ?_
      refine nx_nil ?_
      refine ex_kx (hK11 _ _ ?_)
      refine cw_seq fun K12 hK12 => ?_
      refine cw_region ?_
      refine nx_o (op_assign (Can.int _ _ _)) rfl ?_
      refine nx_nil ?_
      refine ex_kx (hK12 _ _ ?_)
      refine cw_join (fun S O => ∃ (v_t11 : Int) (v_t12 : Int) (v_t13 : Int), orchlaw2_GrowTells_j2 N v_a1 v_a2 v_a4 v_r6 v_a3 v_a5 v_t11 v_t12 v_t13 = some r ∧ S = [(0, SL 2 cSample v_a1), (1, I v_a2), (2, I v_a3), (3, I v_a4), (4, SL 6 cNode v_a5), (12, I v_r6.2), (16, I v_t11), (17, I v_t12), (18, I v_t13)] ∧ O = []) ?_ (fun K17 hK17 => ?_)
      · rintro S O ⟨v_t11, v_t12, v_t13, h, rfl, rfl⟩
        unfold orchlaw2_GrowTells_j2 at h
        refine cw_seq fun K18 hK18 => ?_
        refine cw_region ?_
        refine nx_o (op_move (.tmp 0 rfl)) rfl ?_
        refine nx_o (op_move (.tmp 2 rfl)) rfl ?_
        refine nx_o (op_move (.tmp 5 rfl)) rfl ?_
        obtain ⟨v_r14, hv_r14, h⟩ := bnd h
        refine nx_o (op_call0 (show Fn Go.Proofs.Tryd.prog 44 [SL 2 cSample v_a1, I v_a2, I v_a4] [] (.tup [I v_r14.1, I v_r14.2.1, Er TE v_r14.2.2]) [] from (f44_fn N v_a1 v_a2 v_a4 _ hv_r14)) c44 (.cons (.tmp 2 rfl) (.cons (.tmp 1 rfl) (.cons (.tmp 0 rfl) .nil)))) rfl ?_
        refine nx_o (op_move (.tmp 0 rfl)) rfl ?_
        refine nx_o (op_extract (.tmp 0 rfl) rfl) rfl ?_
        refine nx_o (op_extract (.tmp 1 rfl) rfl) rfl ?_
        refine nx_o (op_extract (.tmp 2 rfl) rfl) rfl ?_
        refine nx_o (op_assign (.tmp 2 rfl)) rfl ?_
        refine nx_o (op_assign (.tmp 2 rfl)) rfl ?_
        refine nx_o (op_assign (.tmp 2 rfl)) rfl ?_
        refine nx_nil ?_
        refine Says.ex (S' := [(14, Er TE v_r14.2.2), (23, I v_r14.2.1), (22, I v_r14.1), (0, SL 2 cSample v_a1), (1, I v_a2), (2, I v_a3), (3, I v_a4), (4, SL 6 cNode v_a5), (12, I v_r6.2), (16, I v_t11), (17, I v_t12), (18, I v_t13)]) (O' := []) (says_pick [0, 1, 2, 11, 12, 13, 14, 15, 16, 17, 18, 19] [] rfl rfl) ?_
        refine ex_kx (hK18 _ _ ?_)
        refine cw_seq fun K19 hK19 => ?_
        refine cw_region ?_
        refine nx_o (op_move (.tmp 0 rfl)) rfl ?_
        refine nx_o (op_move (.tmp 10 rfl)) rfl ?_
        obtain ⟨v_r15, hv_r15, h⟩ := bnd h
        refine nx_o (op_call0 (show Fn Go.Proofs.Tryd.prog 13 [Er TE v_r14.2.2, I v_t11] [] (B v_r15) [] from (f13_fn N v_r14.2.2 v_t11 _ hv_r15)) c13 (.cons (.tmp 1 rfl) (.cons (.tmp 0 rfl) .nil))) rfl ?_
        refine nx_o (op_assign (.tmp 0 rfl)) rfl ?_
        refine nx_nil ?_
        refine Says.ex (S' := [(24, B v_r15), (23, I v_r14.2.1), (22, I v_r14.1), (0, SL 2 cSample v_a1), (1, I v_a2), (2, I v_a3), (3, I v_a4), (4, SL 6 cNode v_a5), (12, I v_r6.2), (17, I v_t12), (18, I v_t13)]) (O' := []) (says_pick [0, 5, 6, 7, 8, 9, 10, 11, 12, 14, 15] [] rfl rfl) ?_
        refine ex_kx (hK19 _ _ ?_)
        refine cw_seq fun K20 hK20 => ?_
        refine cw_region ?_
        refine nx_o (op_move (.tmp 8 rfl)) rfl ?_
        refine nx_o (op_assign (.tmp 0 rfl)) rfl ?_
        refine nx_nil ?_
        refine Says.ex (S' := [(16, I v_r6.2), (24, B v_r15), (23, I v_r14.2.1), (22, I v_r14.1), (0, SL 2 cSample v_a1), (1, I v_a2), (2, I v_a3), (3, I v_a4), (4, SL 6 cNode v_a5), (17, I v_t12), (18, I v_t13)]) (O' := []) (says_pick [0, 2, 3, 4, 5, 6, 7, 8, 9, 11, 12] [] rfl rfl) ?_
        refine ex_kx (hK20 _ _ ?_)
        refine cw_join (fun S O => ∃ (v_t16 : Int), orchlaw2_GrowTells_j3 N v_a1 v_a2 v_a3 v_a4 v_a5 v_r15 v_r14 v_t12 v_t13 v_t16 = some r ∧ S = [(0, SL 2 cSample v_a1), (1, I v_a2), (2, I v_a3), (3, I v_a4), (4, SL 6 cNode v_a5), (16, I v_t16), (17, I v_t12), (18, I v_t13), (22, I v_r14.1), (23, I v_r14.2.1), (24, B v_r15)] ∧ O = []) ?_ (fun K22 hK22 => ?_)
        · rintro S O ⟨v_t16, h, rfl, rfl⟩
          unfold orchlaw2_GrowTells_j3 at h
          refine cw_seq fun K23 hK23 => ?_
          refine cw_region ?_
          refine nx_o (op_assign (Can.raw _ _)) rfl ?_
          refine nx_nil ?_
          refine ex_kx (hK23 _ _ ?_)
          refine cw_join (fun S O => ∃ (v_t18 : List Node), orchlaw2_GrowTells_j4 N v_a1 v_a2 v_a3 v_a4 v_t16 v_a5 v_r15 v_r14 v_t12 v_t13 v_t18 = some r ∧ S = [(0, SL 2 cSample v_a1), (1, I v_a2), (2, I v_a3), (3, I v_a4), (4, SL 6 cNode v_a5), (16, I v_t16), (17, I v_t12), (18, I v_t13), (22, I v_r14.1), (23, I v_r14.2.1), (24, B v_r15), (25, .ref 101)] ∧ O = [(101, .row 28 6 cNode v_t18)]) ?_ (fun K25 hK25 => ?_)
          · rintro S O ⟨v_t18, h, rfl, rfl⟩
            unfold orchlaw2_GrowTells_j4 at h
            refine cw_seq fun K26 hK26 => ?_
            refine cw_region ?_
            refine nx_o (op_move (.tmp 0 rfl)) rfl ?_
            refine nx_o (op_move (.tmp 2 rfl)) rfl ?_
            refine nx_o (op_move (.tmp 4 rfl)) rfl ?_
            refine nx_o (op_move (.tmp 6 rfl)) rfl ?_
            obtain ⟨v_r19, hv_r19, h⟩ := bnd h
            refine nx_o (op_call0 (show Fn Go.Proofs.Tryd.prog 46 [SL 2 cSample v_a1, I v_a2, I v_a3, I v_a4] [] (.tup [SL 6 cNode v_r19.1, Er TE v_r19.2]) [] from (f46_fn N v_a1 v_a2 v_a3 v_a4 _ hv_r19)) c46 (.cons (.tmp 3 rfl) (.cons (.tmp 2 rfl) (.cons (.tmp 1 rfl) (.cons (.tmp 0 rfl) .nil))))) rfl ?_
            refine nx_o (op_move (.tmp 0 rfl)) rfl ?_
            refine nx_o (op_extract (.tmp 0 rfl) rfl) rfl ?_
            refine nx_o (op_extract (.tmp 1 rfl) rfl) rfl ?_
            refine nx_o (op_assign (.tmp 1 rfl)) rfl ?_
            refine nx_o (op_assign (.tmp 1 rfl)) rfl ?_
            refine nx_nil ?_
            refine Says.ex (S' := [(14, Er TE v_r19.2), (26, SL 6 cNode v_r19.1), (0, SL 2 cSample v_a1), (4, SL 6 cNode v_a5), (16, I v_t16), (17, I v_t12), (18, I v_t13), (22, I v_r14.1), (23, I v_r14.2.1), (24, B v_r15), (25, .ref 101)]) (O' := [(101, .row 28 6 cNode v_t18)]) (says_pick [0, 1, 10, 14, 15, 16, 17, 18, 19, 20, 21] [0] rfl rfl) ?_
            refine ex_kx (hK26 _ _ ?_)
            refine cw_seq fun K27 hK27 => ?_
            refine cw_region ?_
            refine nx_o (op_move (.tmp 0 rfl)) rfl ?_
            refine nx_o (op_move (.tmp 5 rfl)) rfl ?_
            obtain ⟨v_r20, hv_r20, h⟩ := bnd h
            refine nx_o (op_call0 (show Fn Go.Proofs.Tryd.prog 13 [Er TE v_r19.2, I v_t16] [] (B v_r20) [] from (f13_fn N v_r19.2 v_t16 _ hv_r20)) c13 (.cons (.tmp 1 rfl) (.cons (.tmp 0 rfl) .nil))) rfl ?_
            refine nx_o (op_assign (.tmp 0 rfl)) rfl ?_
            refine nx_nil ?_
            refine Says.ex (S' := [(27, B v_r20), (26, SL 6 cNode v_r19.1), (0, SL 2 cSample v_a1), (4, SL 6 cNode v_a5), (17, I v_t12), (18, I v_t13), (22, I v_r14.1), (23, I v_r14.2.1), (24, B v_r15), (25, .ref 101)]) (O' := [(101, .row 28 6 cNode v_t18)]) (says_pick [0, 5, 6, 7, 9, 10, 11, 12, 13, 14] [0] rfl rfl) ?_
            refine ex_kx (hK27 _ _ ?_)
            refine cw_seq fun K28 hK28 => ?_
            refine cw_region ?_
            refine nx_o (op_move (.tmp 1 rfl)) rfl ?_
            refine nx_o (op_move (.tmp 10 rfl)) rfl ?_
            refine Says.nx (says_freezeRow (k := 101) 0 rfl rfl (fun _ => rfl) rfl rfl) ?_
            show Nx _ _ _ _ _ [(127, SL 6 cNode v_t18), (126, SL 6 cNode v_r19.1), (27, B v_r20), (26, SL 6 cNode v_r19.1), (0, SL 2 cSample v_a1), (4, SL 6 cNode v_a5), (17, I v_t12), (18, I v_t13), (22, I v_r14.1), (23, I v_r14.2.1), (24, B v_r15), (25, SL 6 cNode v_t18)] []
            obtain ⟨v_r21, hv_r21, h⟩ := bnd h
            refine nx_o (op_call0 (show Fn Go.Proofs.Tryd.prog 47 [SL 6 cNode v_r19.1, SL 6 cNode v_t18] [] (B v_r21) [] from (f47_fn N v_r19.1 v_t18 _ hv_r21)) c47 (.cons (.tmp 1 rfl) (.cons (.tmp 0 rfl) .nil))) rfl ?_
            refine nx_o (op_assign (.tmp 0 rfl)) rfl ?_
            refine nx_nil ?_
            refine Says.ex (S' := [(28, B v_r21), (27, B v_r20), (0, SL 2 cSample v_a1), (4, SL 6 cNode v_a5), (17, I v_t12), (18, I v_t13), (22, I v_r14.1), (23, I v_r14.2.1), (24, B v_r15)]) (O' := []) (says_pick [0, 4, 6, 7, 8, 9, 10, 11, 12] [] rfl rfl) ?_
            refine ex_kx (hK28 _ _ ?_)
            refine cw_seq fun K29 hK29 => ?_
            refine cw_region ?_
            refine nx_o (op_move (.tmp 3 rfl)) rfl ?_
            refine nx_o (op_move (.tmp 3 rfl)) rfl ?_
            obtain ⟨v_r22, hv_r22, h⟩ := bnd h
            refine nx_o (op_call0 (show Fn Go.Proofs.Tryd.prog 28 [SL 6 cNode v_a5, SL 2 cSample v_a1] [] (I v_r22) [] from (f28_fn N v_a5 v_a1 _ hv_r22)) c28 (.cons (.tmp 1 rfl) (.cons (.tmp 0 rfl) .nil))) rfl ?_
            refine nx_o (op_assign (.tmp 0 rfl)) rfl ?_
            refine nx_nil ?_
            refine Says.ex (S' := [(16, I v_r22), (28, B v_r21), (27, B v_r20), (0, SL 2 cSample v_a1), (4, SL 6 cNode v_a5), (17, I v_t12), (18, I v_t13), (22, I v_r14.1), (23, I v_r14.2.1), (24, B v_r15)]) (O' := []) (says_pick [0, 4, 5, 6, 7, 8, 9, 10, 11, 12] [] rfl rfl) ?_
            refine ex_kx (hK29 _ _ ?_)
            refine cw_seq fun K30 hK30 => ?_
            refine cw_region ?_
            refine nx_o (op_assign (Can.int _ _ _)) rfl ?_
            refine nx_nil ?_
            refine ex_kx (hK30 _ _ ?_)
            refine cw_join (fun S O => ∃ (v_t24 : Int), orchlaw2_GrowTells_j5 N v_a5 v_a1 v_r22 v_r15 v_r20 v_r21 v_r14 v_t12 v_t13 v_t24 = some r ∧ S = [(0, SL 2 cSample v_a1), (4, SL 6 cNode v_a5), (16, I v_r22), (17, I v_t12), (18, I v_t13), (22, I v_r14.1), (23, I v_r14.2.1), (24, B v_r15), (27, B v_r20), (28, B v_r21), (29, I v_t24)] ∧ O = []) ?_ (fun K32 hK32 => ?_)
            · rintro S O ⟨v_t24, h, rfl, rfl⟩
              unfold orchlaw2_GrowTells_j5 at h
              refine cw_seq fun K33 hK33 => ?_
              refine cw_region ?_
              refine nx_o (op_move (.tmp 1 rfl)) rfl ?_
              refine nx_o (op_move (.tmp 1 rfl)) rfl ?_
              obtain ⟨v_r25, hv_r25, h⟩ := bnd h
              refine nx_o (op_call0 (show Fn Go.Proofs.Tryd.prog 49 [SL 6 cNode v_a5, SL 2 cSample v_a1] [] (.tup [I v_r25.1, Er TE v_r25.2]) [] from (f49_fn N v_a5 v_a1 _ hv_r25)) c49 (.cons (.tmp 1 rfl) (.cons (.tmp 0 rfl) .nil))) rfl ?_
              refine nx_o (op_move (.tmp 0 rfl)) rfl ?_
              refine nx_o (op_extract (.tmp 0 rfl) rfl) rfl ?_
              refine nx_o (op_extract (.tmp 1 rfl) rfl) rfl ?_
              refine nx_o (op_assign (.tmp 1 rfl)) rfl ?_
              refine nx_o (op_assign (.tmp 1 rfl)) rfl ?_
              refine nx_nil ?_
              refine Says.ex (S' := [(14, Er TE v_r25.2), (30, I v_r25.1), (16, I v_r22), (17, I v_t12), (18, I v_t13), (22, I v_r14.1), (23, I v_r14.2.1), (24, B v_r15), (27, B v_r20), (28, B v_r21), (29, I v_t24)]) (O' := []) (says_pick [0, 1, 10, 11, 12, 13, 14, 15, 16, 17, 18] [] rfl rfl) ?_
              refine ex_kx (hK33 _ _ ?_)
              refine cw_seq fun K34 hK34 => ?_
              refine cw_region ?_
              refine nx_o (op_move (.tmp 0 rfl)) rfl ?_
              refine nx_o (op_move (.tmp 3 rfl)) rfl ?_
              obtain ⟨v_r26, hv_r26, h⟩ := bnd h
              refine nx_o (op_call0 (show Fn Go.Proofs.Tryd.prog 13 [Er TE v_r25.2, I v_r22] [] (B v_r26) [] from (f13_fn N v_r25.2 v_r22 _ hv_r26)) c13 (.cons (.tmp 1 rfl) (.cons (.tmp 0 rfl) .nil))) rfl ?_
              refine nx_o (op_assign (.tmp 0 rfl)) rfl ?_
              refine nx_nil ?_
              refine Says.ex (S' := [(31, B v_r26), (30, I v_r25.1), (17, I v_t12), (18, I v_t13), (22, I v_r14.1), (23, I v_r14.2.1), (24, B v_r15), (27, B v_r20), (28, B v_r21), (29, I v_t24)]) (O' := []) (says_pick [0, 5, 7, 8, 9, 10, 11, 12, 13, 14] [] rfl rfl) ?_
              refine ex_kx (hK34 _ _ ?_)
              refine cw_seq fun K35 hK35 => ?_
              refine cw_region ?_
              refine nx_o (op_move (.tmp 6 rfl)) rfl ?_
              refine nx_o (op_move (.tmp 0 rfl)) rfl ?_
              refine nx_g (opy_guard (cc := v_r15) (.plain 0 rfl) rfl rfl (fun hg => (op_move (.tmp 9 rfl)))) rfl ?_
              refine nx_o (op_and (.tmp 1 rfl) (fun hp => (.cd 0 rfl hp))) rfl ?_
              refine nx_o (op_move (.tmp 0 rfl)) rfl ?_
              refine nx_g (opy_guard (cc := (v_r15 && v_r20)) (.plain 0 rfl) rfl rfl (fun hg => (op_move (.tmp 5 rfl)))) rfl ?_
              refine nx_o (op_and (.tmp 1 rfl) (fun hp => (.cd 0 rfl hp))) rfl ?_
              refine nx_o (op_move (.tmp 0 rfl)) rfl ?_
              refine nx_g (opy_guard (cc := ((v_r15 && v_r20) && v_r26)) (.plain 0 rfl) rfl rfl (fun hg => (op_move (.tmp 16 rfl)))) rfl ?_
              refine nx_o (op_and (.tmp 1 rfl) (fun hp => (.cd 0 rfl hp))) rfl ?_
              refine nx_o (op_move (.tmp 0 rfl)) rfl ?_
              refine nx_g (opy_guard (cc := (((v_r15 && v_r20) && v_r26) && v_r21)) (.plain 0 rfl) rfl rfl (fun hg => (op_move (.tmp 15 rfl)))) rfl ?_
              refine nx_g (opy_guard (cc := (((v_r15 && v_r20) && v_r26) && v_r21)) (.plain 1 rfl) rfl rfl (fun hg => (op_move (.tmp 14 rfl)))) rfl ?_
              refine nx_g (opy_guard (cc := (((v_r15 && v_r20) && v_r26) && v_r21)) (.plain 2 rfl) rfl rfl (fun hg => (op_eql (.cd 1 rfl hg) (.cd 0 rfl hg)))) rfl ?_
              refine nx_o (op_and (.tmp 3 rfl) (fun hp => (.cd 0 rfl hp))) rfl ?_
              refine nx_o (op_move (.tmp 0 rfl)) rfl ?_
              refine nx_g (opy_guard (cc := ((((v_r15 && v_r20) && v_r26) && v_r21) && (v_r14.1 == v_t12))) (.plain 0 rfl) rfl rfl (fun hg => (op_move (.tmp 21 rfl)))) rfl ?_
              refine nx_g (opy_guard (cc := ((((v_r15 && v_r20) && v_r26) && v_r21) && (v_r14.1 == v_t12))) (.plain 1 rfl) rfl rfl (fun hg => (op_move (.tmp 20 rfl)))) rfl ?_
              refine nx_g (opy_guard (cc := ((((v_r15 && v_r20) && v_r26) && v_r21) && (v_r14.1 == v_t12))) (.plain 2 rfl) rfl rfl (fun hg => (op_eql (.cd 1 rfl hg) (.cd 0 rfl hg)))) rfl ?_
              refine nx_o (op_and (.tmp 3 rfl) (fun hp => (.cd 0 rfl hp))) rfl ?_
              refine nx_o (op_move (.tmp 0 rfl)) rfl ?_
              refine nx_g (opy_guard (cc := (((((v_r15 && v_r20) && v_r26) && v_r21) && (v_r14.1 == v_t12)) && (v_r14.2.1 == v_t13))) (.plain 0 rfl) rfl rfl (fun hg => (op_move (.tmp 22 rfl)))) rfl ?_
              refine nx_g (opy_guard (cc := (((((v_r15 && v_r20) && v_r26) && v_r21) && (v_r14.1 == v_t12)) && (v_r14.2.1 == v_t13))) (.plain 1 rfl) rfl rfl (fun hg => (op_move (.tmp 31 rfl)))) rfl ?_
              refine nx_g (opy_guard (cc := (((((v_r15 && v_r20) && v_r26) && v_r21) && (v_r14.1 == v_t12)) && (v_r14.2.1 == v_t13))) (.plain 2 rfl) rfl rfl (fun hg => (op_eql (.cd 1 rfl hg) (.cd 0 rfl hg)))) rfl ?_
              refine nx_o (op_and (.tmp 3 rfl) (fun hp => (.cd 0 rfl hp))) rfl ?_
              refine nx_o (op_assign (.tmp 0 rfl)) rfl ?_
              refine nx_nil ?_
              refine Says.ex (S' := [(10, B ((((((v_r15 && v_r20) && v_r26) && v_r21) && (v_r14.1 == v_t12)) && (v_r14.2.1 == v_t13)) && (v_r25.1 == v_t24)))]) (O' := []) (says_pick [0] [] rfl rfl) ?_
              refine ex_kx (hK35 _ _ ?_)
              refine cw_ret ?_
              cases h
              exact ex_done (.inl rfl) rfl (fun a w G V hs _ hS => res1 rfl (.tmp 0 rfl) a w G V hS)
            ·
              refine cw_seq fun K36 hK36 => ?_
              refine cw_region ?_
              refine nx_o (op_move (.tmp 1 rfl)) rfl ?_
              refine nx_o (op_eql (.tmp 0 rfl) (Can.int _ _ _)) rfl ?_
              refine nx_nil ?_
              refine Says.ex (S' := [(133, B (v_r22 == 0)), (29, I 0), (16, I v_r22), (28, B v_r21), (27, B v_r20), (0, SL 2 cSample v_a1), (4, SL 6 cNode v_a5), (17, I v_t12), (18, I v_t13), (22, I v_r14.1), (23, I v_r14.2.1), (24, B v_r15)]) (O' := []) (says_pick [0, 2, 3, 4, 5, 6, 7, 8, 9, 10, 11, 12] [] rfl rfl) ?_
              refine ex_kx (hK36 _ _ ?_)
              refine cw_cond (b := (v_r22 == 0)) (.tmp 0 rfl) (fun hc => ?_) (fun hc => ?_)
              · have h := ite_t hc h
                refine cw_region ?_
                refine nx_o (op_move (.tmp 6 rfl)) rfl ?_
                refine nx_o (op_move (.tmp 6 rfl)) rfl ?_
                obtain ⟨v_r27, hv_r27, h⟩ := bnd h
                refine nx_o (op_call0 (show Fn Go.Proofs.Tryd.prog 48 [SL 6 cNode v_a5, SL 2 cSample v_a1] [] (I v_r27) [] from (f48_fn N v_a5 v_a1 _ hv_r27)) c48 (.cons (.tmp 1 rfl) (.cons (.tmp 0 rfl) .nil))) rfl ?_
                refine nx_k [0, 1, 2, 3, 5, 6, 7, 8, 9, 10, 11, 12, 13, 14] (op_assign (.tmp 0 rfl)) rfl rfl ?_
                show Nx _ _ _ _ _ [(29, I v_r27), (136, I v_r27), (135, SL 2 cSample v_a1), (134, SL 6 cNode v_a5), (133, B (v_r22 == 0)), (16, I v_r22), (28, B v_r21), (27, B v_r20), (0, SL 2 cSample v_a1), (4, SL 6 cNode v_a5), (17, I v_t12), (18, I v_t13), (22, I v_r14.1), (23, I v_r14.2.1), (24, B v_r15)] []
                refine nx_nil ?_
                refine Says.ex (S' := [(29, I v_r27), (16, I v_r22), (28, B v_r21), (27, B v_r20), (0, SL 2 cSample v_a1), (4, SL 6 cNode v_a5), (17, I v_t12), (18, I v_t13), (22, I v_r14.1), (23, I v_r14.2.1), (24, B v_r15)]) (O' := []) (says_pick [0, 5, 6, 7, 8, 9, 10, 11, 12, 13, 14] [] rfl rfl) ?_
                refine ex_kx ?_
                refine Says.kx (S' := [(0, SL 2 cSample v_a1), (4, SL 6 cNode v_a5), (16, I v_r22), (17, I v_t12), (18, I v_t13), (22, I v_r14.1), (23, I v_r14.2.1), (24, B v_r15), (27, B v_r20), (28, B v_r21), (29, I v_r27)]) (O' := []) (says_pick [4, 5, 1, 6, 7, 8, 9, 10, 3, 2, 0] [] rfl rfl) ?_
                exact hK32 _ _ ⟨v_r27, h, rfl, rfl⟩
              · have h := ite_f hc h
                refine cw_skip ?_
                refine ex_kx ?_
                refine Says.kx (S' := [(0, SL 2 cSample v_a1), (4, SL 6 cNode v_a5), (16, I v_r22), (17, I v_t12), (18, I v_t13), (22, I v_r14.1), (23, I v_r14.2.1), (24, B v_r15), (27, B v_r20), (28, B v_r21), (29, I 0)]) (O' := []) (says_pick [5, 6, 2, 7, 8, 9, 10, 11, 4, 3, 1] [] rfl rfl) ?_
                exact hK32 _ _ ⟨0, h, rfl, rfl⟩
          ·
            refine cw_seq fun K37 hK37 => ?_
            refine cw_region ?_
            refine nx_o (op_move (.tmp 6 rfl)) rfl ?_
            refine nx_o (op_eql (.tmp 0 rfl) (Can.int _ _ _)) rfl ?_
            refine nx_nil ?_
            refine Says.ex (S' := [(109, B (v_t16 == 0)), (25, .raw (.slice none 0 0)), (0, SL 2 cSample v_a1), (1, I v_a2), (2, I v_a3), (3, I v_a4), (4, SL 6 cNode v_a5), (16, I v_t16), (17, I v_t12), (18, I v_t13), (22, I v_r14.1), (23, I v_r14.2.1), (24, B v_r15)]) (O' := []) (says_pick [0, 2, 3, 4, 5, 6, 7, 8, 9, 10, 11, 12, 13] [] rfl rfl) ?_
            refine ex_kx (hK37 _ _ ?_)
            refine cw_cond (b := (v_t16 == 0)) (.tmp 0 rfl) (fun hc => ?_) (fun hc => ?_)
            · have h := ite_t hc h
              refine cw_region ?_
              refine nx_o (op_move (.tmp 2 rfl)) rfl ?_
              refine nx_o (op_move (.tmp 4 rfl)) rfl ?_
              refine nx_o (op_move (.tmp 6 rfl)) rfl ?_
              refine nx_o (op_move (.tmp 8 rfl)) rfl ?_
              obtain ⟨v_r28, hv_r28, h⟩ := bnd h
              refine nx_op (op_call (show Fn Go.Proofs.Tryd.prog 45 [.raw (.slice none 0 0), SL 2 cSample v_a1, I v_a2, I v_a3, I v_a4] [] (.ref 102) [(102, .row 28 6 cNode v_r28)] from (Fn.swap (Fn.nilArg (f45_fn N [] v_a1 v_a2 v_a3 v_a4 _ hv_r28) rfl rfl) 11 102)) c45 (.cons (Can.raw _ _) (.cons (.tmp 3 rfl) (.cons (.tmp 2 rfl) (.cons (.tmp 1 rfl) (.cons (.tmp 0 rfl) .nil))))) [] rfl rfl rfl rfl rfl rfl) rfl ?_
              show Nx _ _ _ _ _ [(114, .ref 102), (113, I v_a4), (112, I v_a3), (111, I v_a2), (110, SL 2 cSample v_a1), (109, B (v_t16 == 0)), (25, .raw (.slice none 0 0)), (0, SL 2 cSample v_a1), (1, I v_a2), (2, I v_a3), (3, I v_a4), (4, SL 6 cNode v_a5), (16, I v_t16), (17, I v_t12), (18, I v_t13), (22, I v_r14.1), (23, I v_r14.2.1), (24, B v_r15)] [(102, .row 28 6 cNode v_r28)]
              refine nx_k [0, 1, 2, 3, 4, 5, 7, 8, 9, 10, 11, 12, 13, 14, 15, 16, 17] (op_assign (.tmp 0 rfl)) rfl rfl ?_
              show Nx _ _ _ _ _ [(25, .ref 102), (114, .ref 102), (113, I v_a4), (112, I v_a3), (111, I v_a2), (110, SL 2 cSample v_a1), (109, B (v_t16 == 0)), (0, SL 2 cSample v_a1), (1, I v_a2), (2, I v_a3), (3, I v_a4), (4, SL 6 cNode v_a5), (16, I v_t16), (17, I v_t12), (18, I v_t13), (22, I v_r14.1), (23, I v_r14.2.1), (24, B v_r15)] [(102, .row 28 6 cNode v_r28)]
              refine nx_nil ?_
              refine Says.ex (S' := [(25, .ref 102), (0, SL 2 cSample v_a1), (1, I v_a2), (2, I v_a3), (3, I v_a4), (4, SL 6 cNode v_a5), (16, I v_t16), (17, I v_t12), (18, I v_t13), (22, I v_r14.1), (23, I v_r14.2.1), (24, B v_r15)]) (O' := [(102, .row 28 6 cNode v_r28)]) (says_pick [0, 7, 8, 9, 10, 11, 12, 13, 14, 15, 16, 17] [0] rfl rfl) ?_
              refine ex_kx ?_
              refine Says.kx (S' := [(0, SL 2 cSample v_a1), (1, I v_a2), (2, I v_a3), (3, I v_a4), (4, SL 6 cNode v_a5), (16, I v_t16), (17, I v_t12), (18, I v_t13), (22, I v_r14.1), (23, I v_r14.2.1), (24, B v_r15), (25, .ref 102)]) (O' := [(102, .row 28 6 cNode v_r28)]) (says_pick [1, 2, 3, 4, 5, 6, 7, 8, 9, 10, 11, 0] [0] rfl rfl) ?_
              refine Says.kx (says_swap 102 101 rfl rfl rfl rfl) ?_
              exact hK25 _ _ ⟨v_r28, h, rfl, rfl⟩
            · have h := ite_f hc h
              refine cw_skip ?_
              refine ex_kx ?_
              refine Says.kx (says_ownNil 25 101 28 6 cNode 1 rfl rfl rfl rfl) ?_
              show Kx _ _ [(109, B (v_t16 == 0)), (25, .ref 101), (0, SL 2 cSample v_a1), (1, I v_a2), (2, I v_a3), (3, I v_a4), (4, SL 6 cNode v_a5), (16, I v_t16), (17, I v_t12), (18, I v_t13), (22, I v_r14.1), (23, I v_r14.2.1), (24, B v_r15)] [(101, .row 28 6 cNode [])]
              refine Says.kx (S' := [(0, SL 2 cSample v_a1), (1, I v_a2), (2, I v_a3), (3, I v_a4), (4, SL 6 cNode v_a5), (16, I v_t16), (17, I v_t12), (18, I v_t13), (22, I v_r14.1), (23, I v_r14.2.1), (24, B v_r15), (25, .ref 101)]) (O' := [(101, .row 28 6 cNode [])]) (says_pick [2, 3, 4, 5, 6, 7, 8, 9, 10, 11, 12, 1] [0] rfl rfl) ?_
              exact hK25 _ _ ⟨[], h, rfl, rfl⟩
        ·
          refine cw_seq fun K38 hK38 => ?_
          refine cw_region ?_
          refine nx_o (op_move (.tmp 0 rfl)) rfl ?_
          refine nx_o (op_eql (.tmp 0 rfl) (Can.int _ _ _)) rfl ?_
          refine nx_o (op_move (.tmp 0 rfl)) rfl ?_
          refine nx_g (opy_guard (cc := (v_r6.2 == 0)) (.plain 0 rfl) rfl rfl (fun hg => (op_move (.tmp 9 rfl)))) rfl ?_
          refine nx_g (opy_guard (cc := (v_r6.2 == 0)) (.plain 1 rfl) rfl rfl (fun hg => (op_lss (.cd 0 rfl hg) (Can.int _ _ _)))) rfl ?_
          refine nx_g (opy_guard (cc := (v_r6.2 == 0)) (.plain 2 rfl) rfl rfl (fun hg => (op_move (.cd 0 rfl hg)))) rfl ?_
          refine nx_g (opy_guard (cc := ((v_r6.2 == 0) && (!(decide (v_a3 < 0))))) (.cond 0 rfl) rfl rfl (fun hg => (op_move (.tmp 12 rfl)))) rfl ?_
          refine nx_g (opy_guard (cc := ((v_r6.2 == 0) && (!(decide (v_a3 < 0))))) (.cond 1 rfl) rfl rfl (fun hg => (op_gtr (.cd 0 rfl hg) (Can.int _ _ _)))) rfl ?_
          refine nx_g (opy_guard (cc := (v_r6.2 == 0)) (.plain 5 rfl) rfl rfl (fun hg => (op_or (.cd 2 rfl hg) (fun hp => (.cd 0 rfl (and_t hg (not_t hp))))))) rfl ?_
          refine nx_g (opy_guard (cc := (v_r6.2 == 0)) (.plain 6 rfl) rfl rfl (fun hg => (op_move (.cd 0 rfl hg)))) rfl ?_
          refine nx_g (opy_guard (cc := ((v_r6.2 == 0) && (!((decide (v_a3 < 0)) || (decide (v_a3 > 5)))))) (.cond 0 rfl) rfl rfl (fun hg => (op_move (.tmp 17 rfl)))) rfl ?_
          refine nx_g (opy_guard (cc := ((v_r6.2 == 0) && (!((decide (v_a3 < 0)) || (decide (v_a3 > 5)))))) (.cond 1 rfl) rfl rfl (fun hg => (op_lss (.cd 0 rfl hg) (Can.int _ _ _)))) rfl ?_
          refine nx_g (opy_guard (cc := (v_r6.2 == 0)) (.plain 9 rfl) rfl rfl (fun hg => (op_or (.cd 2 rfl hg) (fun hp => (.cd 0 rfl (and_t hg (not_t hp))))))) rfl ?_
          refine nx_g (opy_guard (cc := (v_r6.2 == 0)) (.plain 10 rfl) rfl rfl (fun hg => (op_move (.cd 0 rfl hg)))) rfl ?_
          refine nx_g (opy_guard (cc := ((v_r6.2 == 0) && (!(((decide (v_a3 < 0)) || (decide (v_a3 > 5))) || (decide (v_a4 < 1)))))) (.cond 0 rfl) rfl rfl (fun hg => (op_move (.tmp 21 rfl)))) rfl ?_
          refine nx_g (opy_guard (cc := ((v_r6.2 == 0) && (!(((decide (v_a3 < 0)) || (decide (v_a3 > 5))) || (decide (v_a4 < 1)))))) (.cond 1 rfl) rfl rfl (fun hg => (op_gtr (.cd 0 rfl hg) (Can.int _ _ _)))) rfl ?_
          refine nx_g (opy_guard (cc := (v_r6.2 == 0)) (.plain 13 rfl) rfl rfl (fun hg => (op_or (.cd 2 rfl hg) (fun hp => (.cd 0 rfl (and_t hg (not_t hp))))))) rfl ?_
          refine nx_o (op_and (.tmp 14 rfl) (fun hp => (.cd 0 rfl hp))) rfl ?_
          refine nx_nil ?_
          refine Says.ex (S' := [(107, B ((v_r6.2 == 0) && ((((decide (v_a3 < 0)) || (decide (v_a3 > 5))) || (decide (v_a4 < 1))) || (decide (v_a4 > 60))))), (16, I v_r6.2), (24, B v_r15), (23, I v_r14.2.1), (22, I v_r14.1), (0, SL 2 cSample v_a1), (1, I v_a2), (2, I v_a3), (3, I v_a4), (4, SL 6 cNode v_a5), (17, I v_t12), (18, I v_t13)]) (O' := []) (says_pick [0, 18, 19, 20, 21, 22, 23, 24, 25, 26, 27, 28] [] rfl rfl) ?_
          refine ex_kx (hK38 _ _ ?_)
          refine cw_cond (b := ((v_r6.2 == 0) && ((((decide (v_a3 < 0)) || (decide (v_a3 > 5))) || (decide (v_a4 < 1))) || (decide (v_a4 > 60))))) (.tmp 0 rfl) (fun hc => ?_) (fun hc => ?_)
          · have h := ite_t hc h
            refine cw_region ?_
            refine nx_k [0, 2, 3, 4, 5, 6, 7, 8, 9, 10, 11] (op_assign (Can.int _ _ _)) rfl rfl ?_
            show Nx _ _ _ _ _ [(16, I 1), (107, B ((v_r6.2 == 0) && ((((decide (v_a3 < 0)) || (decide (v_a3 > 5))) || (decide (v_a4 < 1))) || (decide (v_a4 > 60))))), (24, B v_r15), (23, I v_r14.2.1), (22, I v_r14.1), (0, SL 2 cSample v_a1), (1, I v_a2), (2, I v_a3), (3, I v_a4), (4, SL 6 cNode v_a5), (17, I v_t12), (18, I v_t13)] []
            refine nx_nil ?_
            refine Says.ex (S' := [(16, I 1), (24, B v_r15), (23, I v_r14.2.1), (22, I v_r14.1), (0, SL 2 cSample v_a1), (1, I v_a2), (2, I v_a3), (3, I v_a4), (4, SL 6 cNode v_a5), (17, I v_t12), (18, I v_t13)]) (O' := []) (says_pick [0, 2, 3, 4, 5, 6, 7, 8, 9, 10, 11] [] rfl rfl) ?_
            refine ex_kx ?_
            refine Says.kx (S' := [(0, SL 2 cSample v_a1), (1, I v_a2), (2, I v_a3), (3, I v_a4), (4, SL 6 cNode v_a5), (16, I 1), (17, I v_t12), (18, I v_t13), (22, I v_r14.1), (23, I v_r14.2.1), (24, B v_r15)]) (O' := []) (says_pick [4, 5, 6, 7, 8, 0, 9, 10, 3, 2, 1] [] rfl rfl) ?_
            exact hK22 _ _ ⟨1, h, rfl, rfl⟩
          · have h := ite_f hc h
            refine cw_skip ?_
            refine ex_kx ?_
            refine Says.kx (S' := [(0, SL 2 cSample v_a1), (1, I v_a2), (2, I v_a3), (3, I v_a4), (4, SL 6 cNode v_a5), (16, I v_r6.2), (17, I v_t12), (18, I v_t13), (22, I v_r14.1), (23, I v_r14.2.1), (24, B v_r15)]) (O' := []) (says_pick [5, 6, 7, 8, 9, 1, 10, 11, 4, 3, 2] [] rfl rfl) ?_
            exact hK22 _ _ ⟨v_r6.2, h, rfl, rfl⟩
      ·
        refine cw_seq fun K39 hK39 => ?_
        refine cw_region ?_
        refine nx_o (op_move (.tmp 8 rfl)) rfl ?_
        refine nx_o (op_eql (.tmp 0 rfl) (Can.int _ _ _)) rfl ?_
        refine nx_nil ?_
        refine Says.ex (S' := [(66, B (v_t9 == 0)), (18, I 0), (17, I 0), (0, SL 2 cSample v_a1), (1, I v_a2), (2, I v_a3), (3, I v_a4), (4, SL 6 cNode v_a5), (12, I v_r6.2), (16, I v_t9)]) (O' := []) (says_pick [0, 2, 3, 4, 5, 6, 7, 8, 9, 10] [] rfl rfl) ?_
        refine ex_kx (hK39 _ _ ?_)
        refine cw_cond (b := (v_t9 == 0)) (.tmp 0 rfl) (fun hc => ?_) (fun hc => ?_)
        · have h := ite_t hc h
          refine cw_seq fun K40 hK40 => ?_
          refine cw_region ?_
          refine nx_o (op_move (.tmp 3 rfl)) rfl ?_
          refine nx_o (op_move (.tmp 5 rfl)) rfl ?_
          refine nx_o (op_move (.tmp 8 rfl)) rfl ?_
          obtain ⟨v_r29, hv_r29, h⟩ := bnd h
          refine nx_o (op_call0 (show Fn Go.Proofs.Tryd.prog 43 [SL 2 cSample v_a1, I v_a2, I v_a4] [] (.tup [I v_r29.1, I v_r29.2.1, B v_r29.2.2]) [] from (f43_fn N v_a1 v_a2 v_a4 _ hv_r29)) c43 (.cons (.tmp 2 rfl) (.cons (.tmp 1 rfl) (.cons (.tmp 0 rfl) .nil)))) rfl ?_
          refine nx_o (op_move (.tmp 0 rfl)) rfl ?_
          refine nx_o (op_extract (.tmp 0 rfl) rfl) rfl ?_
          refine nx_o (op_extract (.tmp 1 rfl) rfl) rfl ?_
          refine nx_o (op_extract (.tmp 2 rfl) rfl) rfl ?_
          refine nx_o (op_assign (.tmp 2 rfl)) rfl ?_
          refine nx_o (op_assign (.tmp 2 rfl)) rfl ?_
          refine nx_o (op_assign (.tmp 2 rfl)) rfl ?_
          refine nx_nil ?_
          refine Says.ex (S' := [(21, B v_r29.2.2), (20, I v_r29.2.1), (19, I v_r29.1), (18, I 0), (17, I 0), (0, SL 2 cSample v_a1), (1, I v_a2), (2, I v_a3), (3, I v_a4), (4, SL 6 cNode v_a5), (12, I v_r6.2), (16, I v_t9)]) (O' := []) (says_pick [0, 1, 2, 12, 13, 14, 15, 16, 17, 18, 19, 20] [] rfl rfl) ?_
          refine ex_kx (hK40 _ _ ?_)
          refine cw_seq fun K41 hK41 => ?_
          refine cw_region ?_
          refine nx_o (op_move (.tmp 0 rfl)) rfl ?_
          refine nx_nil ?_
          refine Says.ex (S' := [(75, B v_r29.2.2), (20, I v_r29.2.1), (19, I v_r29.1), (18, I 0), (17, I 0), (0, SL 2 cSample v_a1), (1, I v_a2), (2, I v_a3), (3, I v_a4), (4, SL 6 cNode v_a5), (12, I v_r6.2), (16, I v_t9)]) (O' := []) (says_pick [0, 2, 3, 4, 5, 6, 7, 8, 9, 10, 11, 12] [] rfl rfl) ?_
          refine ex_kx (hK41 _ _ ?_)
          refine cw_cond (b := v_r29.2.2) (.tmp 0 rfl) (fun hc => ?_) (fun hc => ?_)
          · have h := ite_t hc h
            refine cw_seq fun K42 hK42 => ?_
            refine cw_region ?_
            refine nx_o (op_move (.tmp 2 rfl)) rfl ?_
            refine nx_k [0, 1, 2, 3, 4, 6, 7, 8, 9, 10, 11, 12] (op_assign (.tmp 0 rfl)) rfl rfl ?_
            show Nx _ _ _ _ _ [(17, I v_r29.1), (76, I v_r29.1), (75, B v_r29.2.2), (20, I v_r29.2.1), (19, I v_r29.1), (18, I 0), (0, SL 2 cSample v_a1), (1, I v_a2), (2, I v_a3), (3, I v_a4), (4, SL 6 cNode v_a5), (12, I v_r6.2), (16, I v_t9)] []
            refine nx_nil ?_
            refine Says.ex (S' := [(17, I v_r29.1), (20, I v_r29.2.1), (0, SL 2 cSample v_a1), (1, I v_a2), (2, I v_a3), (3, I v_a4), (4, SL 6 cNode v_a5), (12, I v_r6.2), (16, I v_t9)]) (O' := []) (says_pick [0, 3, 6, 7, 8, 9, 10, 11, 12] [] rfl rfl) ?_
            refine ex_kx (hK42 _ _ ?_)
            refine cw_region ?_
            refine nx_o (op_move (.tmp 1 rfl)) rfl ?_
            refine nx_o (op_assign (.tmp 0 rfl)) rfl ?_
            refine nx_nil ?_
            refine Says.ex (S' := [(18, I v_r29.2.1), (17, I v_r29.1), (0, SL 2 cSample v_a1), (1, I v_a2), (2, I v_a3), (3, I v_a4), (4, SL 6 cNode v_a5), (12, I v_r6.2), (16, I v_t9)]) (O' := []) (says_pick [0, 2, 4, 5, 6, 7, 8, 9, 10] [] rfl rfl) ?_
            refine ex_kx ?_
            refine Says.kx (S' := [(0, SL 2 cSample v_a1), (1, I v_a2), (2, I v_a3), (3, I v_a4), (4, SL 6 cNode v_a5), (12, I v_r6.2), (16, I v_t9), (17, I v_r29.1), (18, I v_r29.2.1)]) (O' := []) (says_pick [2, 3, 4, 5, 6, 7, 8, 1, 0] [] rfl rfl) ?_
            exact hK17 _ _ ⟨v_t9, v_r29.1, v_r29.2.1, h, rfl, rfl⟩
          · have h := ite_f hc h
            refine cw_region ?_
            refine nx_k [0, 1, 2, 3, 4, 5, 6, 7, 8, 9, 10] (op_assign (Can.int _ _ _)) rfl rfl ?_
            show Nx _ _ _ _ _ [(16, I 5), (75, B v_r29.2.2), (20, I v_r29.2.1), (19, I v_r29.1), (18, I 0), (17, I 0), (0, SL 2 cSample v_a1), (1, I v_a2), (2, I v_a3), (3, I v_a4), (4, SL 6 cNode v_a5), (12, I v_r6.2)] []
            refine nx_nil ?_
            refine Says.ex (S' := [(16, I 5), (18, I 0), (17, I 0), (0, SL 2 cSample v_a1), (1, I v_a2), (2, I v_a3), (3, I v_a4), (4, SL 6 cNode v_a5), (12, I v_r6.2)]) (O' := []) (says_pick [0, 4, 5, 6, 7, 8, 9, 10, 11] [] rfl rfl) ?_
            refine ex_kx ?_
            refine Says.kx (S' := [(0, SL 2 cSample v_a1), (1, I v_a2), (2, I v_a3), (3, I v_a4), (4, SL 6 cNode v_a5), (12, I v_r6.2), (16, I 5), (17, I 0), (18, I 0)]) (O' := []) (says_pick [3, 4, 5, 6, 7, 8, 0, 2, 1] [] rfl rfl) ?_
            exact hK17 _ _ ⟨5, 0, 0, h, rfl, rfl⟩
        · have h := ite_f hc h
          refine cw_skip ?_
          refine ex_kx ?_
          refine Says.kx (S' := [(0, SL 2 cSample v_a1), (1, I v_a2), (2, I v_a3), (3, I v_a4), (4, SL 6 cNode v_a5), (12, I v_r6.2), (16, I v_t9), (17, I 0), (18, I 0)]) (O' := []) (says_pick [3, 4, 5, 6, 7, 8, 9, 2, 1] [] rfl rfl) ?_
          exact hK17 _ _ ⟨v_t9, 0, 0, h, rfl, rfl⟩
    ·
      refine cw_seq fun K43 hK43 => ?_
      refine cw_region ?_
      refine nx_o (op_move (.tmp 0 rfl)) rfl ?_
      refine nx_o (op_eql (.tmp 0 rfl) (Can.int _ _ _)) rfl ?_
      refine nx_o (op_move (.tmp 0 rfl)) rfl ?_
      refine nx_g (opy_guard (cc := (v_r6.2 == 0)) (.plain 0 rfl) rfl rfl (fun hg => (op_move (.tmp 8 rfl)))) rfl ?_
      refine nx_g (opy_guard (cc := (v_r6.2 == 0)) (.plain 1 rfl) rfl rfl (fun hg => (op_lss (.cd 0 rfl hg) (Can.int _ _ _)))) rfl ?_
      refine nx_g (opy_guard (cc := (v_r6.2 == 0)) (.plain 2 rfl) rfl rfl (fun hg => (op_move (.cd 0 rfl hg)))) rfl ?_
      refine nx_g (opy_guard (cc := ((v_r6.2 == 0) && (!(decide (v_a4 < 1))))) (.cond 0 rfl) rfl rfl (fun hg => (op_move (.tmp 11 rfl)))) rfl ?_
      refine nx_g (opy_guard (cc := ((v_r6.2 == 0) && (!(decide (v_a4 < 1))))) (.cond 1 rfl) rfl rfl (fun hg => (op_gtr (.cd 0 rfl hg) (Can.int _ _ _)))) rfl ?_
      refine nx_g (opy_guard (cc := (v_r6.2 == 0)) (.plain 5 rfl) rfl rfl (fun hg => (op_or (.cd 2 rfl hg) (fun hp => (.cd 0 rfl (and_t hg (not_t hp))))))) rfl ?_
      refine nx_o (op_and (.tmp 6 rfl) (fun hp => (.cd 0 rfl hp))) rfl ?_
      refine nx_nil ?_
      refine Says.ex (S' := [(64, B ((v_r6.2 == 0) && ((decide (v_a4 < 1)) || (decide (v_a4 > 60))))), (16, I v_r6.2), (12, I v_r6.2), (0, SL 2 cSample v_a1), (1, I v_a2), (2, I v_a3), (3, I v_a4), (4, SL 6 cNode v_a5)]) (O' := []) (says_pick [0, 10, 11, 12, 13, 14, 15, 16] [] rfl rfl) ?_
      refine ex_kx (hK43 _ _ ?_)
      refine cw_cond (b := ((v_r6.2 == 0) && ((decide (v_a4 < 1)) || (decide (v_a4 > 60))))) (.tmp 0 rfl) (fun hc => ?_) (fun hc => ?_)
      · have h := ite_t hc h
        refine cw_region ?_
        refine nx_k [0, 2, 3, 4, 5, 6, 7] (op_assign (Can.int _ _ _)) rfl rfl ?_
        show Nx _ _ _ _ _ [(16, I 1), (64, B ((v_r6.2 == 0) && ((decide (v_a4 < 1)) || (decide (v_a4 > 60))))), (12, I v_r6.2), (0, SL 2 cSample v_a1), (1, I v_a2), (2, I v_a3), (3, I v_a4), (4, SL 6 cNode v_a5)] []
        refine nx_nil ?_
        refine Says.ex (S' := [(16, I 1), (12, I v_r6.2), (0, SL 2 cSample v_a1), (1, I v_a2), (2, I v_a3), (3, I v_a4), (4, SL 6 cNode v_a5)]) (O' := []) (says_pick [0, 2, 3, 4, 5, 6, 7] [] rfl rfl) ?_
        refine ex_kx ?_
        refine Says.kx (S' := [(0, SL 2 cSample v_a1), (1, I v_a2), (2, I v_a3), (3, I v_a4), (4, SL 6 cNode v_a5), (12, I v_r6.2), (16, I 1)]) (O' := []) (says_pick [2, 3, 4, 5, 6, 1, 0] [] rfl rfl) ?_
        exact hK10 _ _ ⟨1, h, rfl, rfl⟩
      · have h := ite_f hc h
        refine cw_skip ?_
        refine ex_kx ?_
        refine Says.kx (S' := [(0, SL 2 cSample v_a1), (1, I v_a2), (2, I v_a3), (3, I v_a4), (4, SL 6 cNode v_a5), (12, I v_r6.2), (16, I v_r6.2)]) (O' := []) (says_pick [3, 4, 5, 6, 7, 2, 1] [] rfl rfl) ?_
        exact hK10 _ _ ⟨v_r6.2, h, rfl, rfl⟩

end Go.Dl
