/- Printed by wip/gen: the calls compute it. -/
import Derived.Test.YtbalmknhjokgaaaDW2
set_option linter.unusedVariables false
set_option maxRecDepth 4000
set_option maxHeartbeats 2000000
namespace Go.Dl
open Go

theorem f22_fn (N : Nat) (v_l1 : List Sample) (v_features2 : Int) (v_least3 : Int) (r : Int × Int × (Option Int)) (h : grow_Split N v_l1 v_features2 v_least3 = some r) : Fn Go.Proofs.Try.prog 22 [SL 2 cSample v_l1, I v_features2, I v_least3] [] (.tup [I r.1, I r.2.1, Er TE r.2.2]) [] := by
  unfold grow_Split at h
  refine fn_intro [] fun22 rfl rfl (Nat.le_of_ble_eq_true rfl) rfl rfl (fun w G V => ?_)
  show Cw _ _ _ _ [(0, SL 2 cSample v_l1), (1, I v_features2), (2, I v_least3)] []
  refine cw_seq fun K1 hK1 => ?_
  refine cw_region ?_
  refine nx_o (op_assign (Can.int _ _ _)) rfl ?_
  refine nx_o (op_assign (Can.int _ _ _)) rfl ?_
  refine nx_o (op_assign (Can.nilE _ TE)) rfl ?_
  refine nx_nil ?_
  refine Says.ex (S' := [(0, SL 2 cSample v_l1), (1, I v_features2), (2, I v_least3)]) (O' := []) (says_pick [3, 4, 5] [] rfl rfl) ?_
  refine ex_kx (hK1 _ _ ?_)
  refine cw_seq fun K2 hK2 => ?_
  refine cw_seq fun K3 hK3 => ?_
  refine cw_region ?_
  refine nx_o (op_move (.tmp 0 rfl)) rfl ?_
  refine nx_o (op_move (.tmp 2 rfl)) rfl ?_
  obtain ⟨v_r4, hv_r4, h⟩ := bnd h
  refine nx_o (op_call0 (show Fn Go.Proofs.Try.prog 11 [SL 2 cSample v_l1, I v_features2] [] (.tup [I v_r4.1, Er TE v_r4.2]) [] from (f11_fn N v_l1 v_features2 _ hv_r4)) c11 (.cons (.tmp 1 rfl) (.cons (.tmp 0 rfl) .nil))) rfl ?_
  refine nx_o (op_move (.tmp 0 rfl)) rfl ?_
  refine nx_o (op_extract (.tmp 0 rfl) rfl) rfl ?_
  refine nx_o (op_extract (.tmp 1 rfl) rfl) rfl ?_
  refine nx_o (op_assign (.tmp 1 rfl)) rfl ?_
  refine nx_o (op_assign (.tmp 1 rfl)) rfl ?_
  refine nx_nil ?_
  refine Says.ex (S' := [(10, Er TE v_r4.2), (0, SL 2 cSample v_l1), (1, I v_features2), (2, I v_least3)]) (O' := []) (says_pick [0, 8, 9, 10] [] rfl rfl) ?_
  refine ex_kx (hK3 _ _ ?_)
  refine cw_seq fun K4 hK4 => ?_
  refine cw_region ?_
  refine nx_o (op_move (.tmp 0 rfl)) rfl ?_
  refine nx_o (op_neqNil (.tmp 0 rfl) u28) rfl ?_
  refine nx_nil ?_
  refine Says.ex (S' := [(18, B v_r4.2.isSome), (10, Er TE v_r4.2), (0, SL 2 cSample v_l1), (1, I v_features2), (2, I v_least3)]) (O' := []) (says_pick [0, 2, 3, 4, 5] [] rfl rfl) ?_
  refine ex_kx (hK4 _ _ ?_)
  refine cw_cond (b := v_r4.2.isSome) (.tmp 0 rfl) (fun hc => ?_) (fun hc => ?_)
  · have h := ite_t hc h
    refine cw_seq fun K5 hK5 => ?_
    refine cw_region ?_
    refine nx_o (op_move (.tmp 1 rfl)) rfl ?_
    refine nx_o (op_assign (Can.int _ _ _)) rfl ?_
    refine nx_o (op_assign (Can.int _ _ _)) rfl ?_
    refine nx_o (op_assign (.tmp 2 rfl)) rfl ?_
    refine nx_nil ?_
    refine Says.ex (S' := [(8, Er TE v_r4.2), (7, I 0), (6, I 0)]) (O' := []) (says_pick [0, 1, 2] [] rfl rfl) ?_
    refine ex_kx (hK5 _ _ ?_)
    refine cw_ret ?_
    refine ex_tr ?_
    cases h
    refine Says.ex (S' := [(6, I 0), (7, I 0), (8, Er TE v_r4.2)]) (O' := []) (says_pick [2, 1, 0] [] rfl rfl) ?_
    exact ex_done (.inl rfl) rfl (fun a w G V hs _ hS => resM rfl (.tmp (.tmp 0 rfl) (.tmp (.tmp 1 rfl) (.tmp (.tmp 2 rfl) .nil))) a w G V hs hS)
  · have h := ite_f hc h
    refine cw_skip ?_
    refine ex_kx (hK2 _ _ ?_)
    refine cw_seq fun K6 hK6 => ?_
    refine cw_seq fun K7 hK7 => ?_
    refine cw_region ?_
    refine nx_o (op_move (.tmp 4 rfl)) rfl ?_
    obtain ⟨v_r5, hv_r5, h⟩ := bnd h
    refine nx_o (op_call0 (show Fn Go.Proofs.Try.prog 39 [I v_least3] [] (B v_r5) [] from (f39_fn N v_least3 _ hv_r5)) c39 (.cons (.tmp 0 rfl) .nil)) rfl ?_
    refine nx_o (op_not (.tmp 0 rfl)) rfl ?_
    refine nx_nil ?_
    refine Says.ex (S' := [(22, B (!v_r5)), (0, SL 2 cSample v_l1), (1, I v_features2), (2, I v_least3)]) (O' := []) (says_pick [0, 5, 6, 7] [] rfl rfl) ?_
    refine ex_kx (hK7 _ _ ?_)
    refine cw_cond (b := (!v_r5)) (.tmp 0 rfl) (fun hc => ?_) (fun hc => ?_)
    · have h := ite_t hc h
      refine cw_seq fun K8 hK8 => ?_
      refine cw_region ?_
      refine nx_o (op_mkErr (Can.int _ _ _) u95 (fun _ h => by cases h)) rfl ?_
      refine nx_o (op_assign (Can.int _ _ _)) rfl ?_
      refine nx_o (op_assign (Can.int _ _ _)) rfl ?_
      refine nx_o (op_assign (.tmp 2 rfl)) rfl ?_
      refine nx_nil ?_
      refine Says.ex (S' := [(8, Er TE (some 1)), (7, I 0), (6, I 0)]) (O' := []) (says_pick [0, 1, 2] [] rfl rfl) ?_
      refine ex_kx (hK8 _ _ ?_)
      refine cw_ret ?_
      refine ex_tr ?_
      cases h
      refine Says.ex (S' := [(6, I 0), (7, I 0), (8, Er TE (some 1))]) (O' := []) (says_pick [2, 1, 0] [] rfl rfl) ?_
      exact ex_done (.inl rfl) rfl (fun a w G V hs _ hS => resM rfl (.tmp (.tmp 0 rfl) (.tmp (.tmp 1 rfl) (.tmp (.tmp 2 rfl) .nil))) a w G V hs hS)
    · have h := ite_f hc h
      refine cw_skip ?_
      refine ex_kx (hK6 _ _ ?_)
      refine cw_seq fun K9 hK9 => ?_
      refine cw_seq fun K10 hK10 => ?_
      refine cw_region ?_
      refine nx_o (op_move (.tmp 1 rfl)) rfl ?_
      refine nx_o (op_move (.tmp 3 rfl)) rfl ?_
      refine nx_o (op_move (.tmp 5 rfl)) rfl ?_
      obtain ⟨v_r6, hv_r6, h⟩ := bnd h
      refine nx_o (op_call0 (show Fn Go.Proofs.Try.prog 62 [SL 2 cSample v_l1, I v_features2, I v_least3] [] (.tup [I v_r6.1, I v_r6.2]) [] from (f62_fn N v_l1 v_features2 v_least3 _ hv_r6)) c62 (.cons (.tmp 2 rfl) (.cons (.tmp 1 rfl) (.cons (.tmp 0 rfl) .nil)))) rfl ?_
      refine nx_o (op_move (.tmp 0 rfl)) rfl ?_
      refine nx_o (op_extract (.tmp 0 rfl) rfl) rfl ?_
      refine nx_o (op_extract (.tmp 1 rfl) rfl) rfl ?_
      refine nx_o (op_assign (.tmp 1 rfl)) rfl ?_
      refine nx_o (op_assign (.tmp 1 rfl)) rfl ?_
      refine nx_nil ?_
      refine Says.ex (S' := [(7, I v_r6.2), (6, I v_r6.1)]) (O' := []) (says_pick [0, 1] [] rfl rfl) ?_
      refine ex_kx (hK10 _ _ ?_)
      refine cw_seq fun K11 hK11 => ?_
      refine cw_region ?_
      refine nx_o (op_move (.tmp 1 rfl)) rfl ?_
      refine nx_o (op_lss (.tmp 0 rfl) (Can.int _ _ _)) rfl ?_
      refine nx_nil ?_
      refine Says.ex (S' := [(32, B (decide (v_r6.1 < 0))), (7, I v_r6.2), (6, I v_r6.1)]) (O' := []) (says_pick [0, 2, 3] [] rfl rfl) ?_
      refine ex_kx (hK11 _ _ ?_)
      refine cw_cond (b := (decide (v_r6.1 < 0))) (.tmp 0 rfl) (fun hc => ?_) (fun hc => ?_)
      · have h := ite_t hc h
        refine cw_seq fun K12 hK12 => ?_
        refine cw_region ?_
        refine nx_o (op_mkErr (Can.int _ _ _) u95 (fun _ h => by cases h)) rfl ?_
        refine nx_k [0, 1, 2] (op_assign (Can.int _ _ _)) rfl rfl ?_
        show Nx _ _ _ _ _ [(6, I 0), (33, Er TE (some 5)), (32, B (decide (v_r6.1 < 0))), (7, I v_r6.2)] []
        refine nx_k [0, 1, 2] (op_assign (Can.int _ _ _)) rfl rfl ?_
        show Nx _ _ _ _ _ [(7, I 0), (6, I 0), (33, Er TE (some 5)), (32, B (decide (v_r6.1 < 0)))] []
        refine nx_o (op_assign (.tmp 2 rfl)) rfl ?_
        refine nx_nil ?_
        refine Says.ex (S' := [(8, Er TE (some 5)), (7, I 0), (6, I 0)]) (O' := []) (says_pick [0, 1, 2] [] rfl rfl) ?_
        refine ex_kx (hK12 _ _ ?_)
        refine cw_ret ?_
        refine ex_tr ?_
        cases h
        refine Says.ex (S' := [(6, I 0), (7, I 0), (8, Er TE (some 5))]) (O' := []) (says_pick [2, 1, 0] [] rfl rfl) ?_
        exact ex_done (.inl rfl) rfl (fun a w G V hs _ hS => resM rfl (.tmp (.tmp 0 rfl) (.tmp (.tmp 1 rfl) (.tmp (.tmp 2 rfl) .nil))) a w G V hs hS)
      · have h := ite_f hc h
        refine cw_skip ?_
        refine ex_kx (hK9 _ _ ?_)
        refine cw_seq fun K13 hK13 => ?_
        refine cw_region ?_
        refine nx_o (op_move (.tmp 2 rfl)) rfl ?_
        refine nx_o (op_move (.tmp 2 rfl)) rfl ?_
        refine nx_k [0, 1, 2, 3] (op_assign (.tmp 1 rfl)) rfl rfl ?_
        show Nx _ _ _ _ _ [(6, I v_r6.1), (35, I v_r6.2), (34, I v_r6.1), (32, B (decide (v_r6.1 < 0))), (7, I v_r6.2)] []
        refine nx_k [0, 1, 2, 3] (op_assign (.tmp 1 rfl)) rfl rfl ?_
        show Nx _ _ _ _ _ [(7, I v_r6.2), (6, I v_r6.1), (35, I v_r6.2), (34, I v_r6.1), (32, B (decide (v_r6.1 < 0)))] []
        refine nx_o (op_assign (Can.nilE _ TE)) rfl ?_
        refine nx_nil ?_
        refine Says.ex (S' := [(8, Er TE none), (7, I v_r6.2), (6, I v_r6.1)]) (O' := []) (says_pick [0, 1, 2] [] rfl rfl) ?_
        refine ex_kx (hK13 _ _ ?_)
        refine cw_ret ?_
        cases h
        refine Says.ex (S' := [(6, I v_r6.1), (7, I v_r6.2), (8, Er TE none)]) (O' := []) (says_pick [2, 1, 0] [] rfl rfl) ?_
        exact ex_done (.inl rfl) rfl (fun a w G V hs _ hS => resM rfl (.tmp (.tmp 0 rfl) (.tmp (.tmp 1 rfl) (.tmp (.tmp 2 rfl) .nil))) a w G V hs hS)

theorem f23_fn (N : Nat) (v_a1 : List Sample) (v_a2 : Int) (v_a3 : Int) (v_a4 : Int) (r : A2I) (h : orchlaw2_right N v_a1 v_a2 v_a3 v_a4 = some r) : Fn Go.Proofs.Try.prog 23 [SL 2 cSample v_a1, I v_a2, I v_a3, I v_a4] [] (.agg (cA2I r)) [] := by
  unfold orchlaw2_right at h
  refine fn_intro [] fun23 rfl rfl (Nat.le_of_ble_eq_true rfl) rfl rfl (fun w G V => ?_)
  show Cw _ _ _ _ [(0, SL 2 cSample v_a1), (1, I v_a2), (2, I v_a3), (3, I v_a4)] []
  refine cw_seq fun K1 hK1 => ?_
  refine cw_region ?_
  refine nx_op (op_alloc 101 (cA2I (A2I.mk 0 0)) za58 zA2I rfl) rfl ?_
  show Nx _ _ _ _ _ [(8, .ref 101), (0, SL 2 cSample v_a1), (1, I v_a2), (2, I v_a3), (3, I v_a4)] [(101, .var 58 [I 0, I 0])]
  refine nx_nil ?_
  refine ex_kx (hK1 _ _ ?_)
  refine cw_seq fun K2 hK2 => ?_
  refine cw_region ?_
  refine nx_o (op_assign (Can.int _ _ _)) rfl ?_
  refine nx_nil ?_
  refine ex_kx (hK2 _ _ ?_)
  refine cw_seq fun K3 hK3 => ?_
  refine cw_region ?_
  refine nx_o (op_assign (Can.int _ _ _)) rfl ?_
  refine nx_nil ?_
  refine ex_kx (hK3 _ _ ?_)
  refine cw_seq fun K4 hK4 => ?_
  refine cw_region ?_
  refine nx_o (op_assign (Can.int _ _ _)) rfl ?_
  refine nx_nil ?_
  refine ex_kx (hK4 _ _ ?_)
  refine cw_seq fun K5 hK5 => ?_
  refine cw_region ?_
  refine nx_o (op_assign (Can.int _ _ _)) rfl ?_
  refine nx_nil ?_
  refine ex_kx (hK5 _ _ ?_)
  refine cw_join (fun S O => ∃ (v_t30 : Int) (v_t31 : Int) (v_t32 : Int) (v_t33 : Int), orchlaw2_right_j1 N v_a4 v_t30 v_t31 v_t32 v_t33 = some r ∧ S = [(3, I v_a4), (8, .ref 101), (9, I v_t30), (10, I v_t31), (11, I v_t32), (12, I v_t33)] ∧ O = [(101, .var 58 [I 0, I 0])]) ?_ (fun K27 hK27 => ?_)
  · rintro S O ⟨v_t30, v_t31, v_t32, v_t33, h, rfl, rfl⟩
    unfold orchlaw2_right_j1 at h
    refine cw_seq fun K28 hK28 => ?_
    refine cw_seq fun K29 hK29 => ?_
    refine cw_region ?_
    refine nx_o (op_move (.tmp 0 rfl)) rfl ?_
    refine nx_o (op_eql (.tmp 0 rfl) (Can.int _ _ _)) rfl ?_
    refine nx_nil ?_
    refine Says.ex (S' := [(59, B (v_a4 == 0)), (3, I v_a4), (8, .ref 101), (9, I v_t30), (10, I v_t31), (11, I v_t32), (12, I v_t33)]) (O' := [(101, .var 58 [I 0, I 0])]) (says_pick [0, 2, 3, 4, 5, 6, 7] [0] rfl rfl) ?_
    refine ex_kx (hK29 _ _ ?_)
    refine cw_cond (b := (v_a4 == 0)) (.tmp 0 rfl) (fun hc => ?_) (fun hc => ?_)
    · have h := ite_t hc h
      refine cw_seq fun K30 hK30 => ?_
      refine cw_region ?_
      refine nx_o (op_move (.tmp 3 rfl)) rfl ?_
      refine nx_o (op_move (.tmp 5 rfl)) rfl ?_
      refine nx_o (op_add (.tmp 1 rfl) (.tmp 0 rfl)) rfl ?_
      refine nx_o (op_move (.tmp 6 rfl)) rfl ?_
      refine nx_o (op_move (.tmp 8 rfl)) rfl ?_
      refine nx_o (op_add (.tmp 1 rfl) (.tmp 0 rfl)) rfl ?_
      obtain ⟨v_t34, hv_t34, h⟩ := bnd h
      refine nx_o (OpX.named hv_t34 (op_mul (.tmp 3 rfl) (.tmp 0 rfl))) rfl ?_
      refine nx_o (op_move (.tmp 12 rfl)) rfl ?_
      refine nx_o (op_move (.tmp 14 rfl)) rfl ?_
      refine nx_o (op_add (.tmp 1 rfl) (.tmp 0 rfl)) rfl ?_
      refine nx_o (op_buildA (l := (cA2I (A2I.mk v_t34 (w64 (v_t32 + v_t33))))) (cA2I (A2I.mk 0 0)) za58 u58 s3 zA2I (.cons (.c (.tmp 3 rfl)) rfl (Nat.le_of_ble_eq_true rfl) (.cons (.c (.tmp 0 rfl)) rfl (Nat.le_of_ble_eq_true rfl) .nil)) rfl) rfl ?_
      refine nx_o0 (op_storeVA (its := (cA2I (A2I.mk v_t34 (w64 (v_t32 + v_t33))))) (.tmp 13 rfl) 0 rfl (.agg (.tmp 0 rfl)) rfl s58) ?_
      show Nx _ _ _ _ _ [(70, .agg (cA2I (A2I.mk v_t34 (w64 (v_t32 + v_t33))))), (69, I (w64 (v_t32 + v_t33))), (68, I v_t33), (67, I v_t32), (66, I v_t34), (65, I (w64 (v_t30 + v_t31))), (64, I v_t31), (63, I v_t30), (62, I (w64 (v_t30 + v_t31))), (61, I v_t31), (60, I v_t30), (59, B (v_a4 == 0)), (3, I v_a4), (8, .ref 101), (9, I v_t30), (10, I v_t31), (11, I v_t32), (12, I v_t33)] [(101, .var 58 [I ((A2I.mk v_t34 (w64 (v_t32 + v_t33))).e0), I ((A2I.mk v_t34 (w64 (v_t32 + v_t33))).e1)])]
      refine nx_nil ?_
      refine Says.ex (S' := [(8, .ref 101)]) (O' := [(101, .var 58 [I ((A2I.mk v_t34 (w64 (v_t32 + v_t33))).e0), I ((A2I.mk v_t34 (w64 (v_t32 + v_t33))).e1)])]) (says_pick [13] [0] rfl rfl) ?_
      refine ex_kx (hK30 _ _ ?_)
      refine cw_ret ?_
      refine ex_tr ?_
      cases h
      exact ex_doneV (.inl rfl) rfl (fun a w G V hs _ hS => resC rfl (.var (its := (cA2I (A2I.mk v_t34 (w64 (v_t32 + v_t33))))) (.tmp 0 rfl) 0 rfl a58 s58 .nil) a w G V hs hS)
    · have h := ite_f hc h
      refine cw_skip ?_
      refine ex_kx (hK28 _ _ ?_)
      refine cw_seq fun K31 hK31 => ?_
      refine cw_seq fun K32 hK32 => ?_
      refine cw_region ?_
      refine nx_o (op_move (.tmp 5 rfl)) rfl ?_
      refine nx_o (op_move (.tmp 2 rfl)) rfl ?_
      refine nx_o (op_lss (.tmp 1 rfl) (.tmp 0 rfl)) rfl ?_
      refine nx_o (op_move (.tmp 0 rfl)) rfl ?_
      refine nx_g (opy_guard (cc := (!(decide (v_t32 < v_a4)))) (.plain 0 rfl) rfl rfl (fun hg => (op_move (.tmp 10 rfl)))) rfl ?_
      refine nx_g (opy_guard (cc := (!(decide (v_t32 < v_a4)))) (.plain 1 rfl) rfl rfl (fun hg => (op_move (.tmp 6 rfl)))) rfl ?_
      refine nx_g (opy_guard (cc := (!(decide (v_t32 < v_a4)))) (.plain 2 rfl) rfl rfl (fun hg => (op_lss (.cd 1 rfl hg) (.cd 0 rfl hg)))) rfl ?_
      refine nx_o (op_or (.tmp 3 rfl) (fun hp => (.cd 0 rfl (not_t hp)))) rfl ?_
      refine nx_nil ?_
      refine Says.ex (S' := [(78, B ((decide (v_t32 < v_a4)) || (decide (v_t33 < v_a4)))), (8, .ref 101), (9, I v_t30), (10, I v_t31), (11, I v_t32), (12, I v_t33)]) (O' := [(101, .var 58 [I 0, I 0])]) (says_pick [0, 10, 11, 12, 13, 14] [0] rfl rfl) ?_
      refine ex_kx (hK32 _ _ ?_)
      refine cw_cond (b := ((decide (v_t32 < v_a4)) || (decide (v_t33 < v_a4)))) (.tmp 0 rfl) (fun hc => ?_) (fun hc => ?_)
      · have h := ite_t hc h
        refine cw_seq fun K33 hK33 => ?_
        refine cw_region ?_
        refine nx_o (op_buildA (l := (cA2I (A2I.mk 0 0))) (cA2I (A2I.mk 0 0)) za58 u58 s3 zA2I (.cons (.c (Can.int _ _ _)) rfl (Nat.le_of_ble_eq_true rfl) (.cons (.c (Can.int _ _ _)) rfl (Nat.le_of_ble_eq_true rfl) .nil)) rfl) rfl ?_
        refine nx_o0 (op_storeVA (its := (cA2I (A2I.mk 0 0))) (.tmp 2 rfl) 0 rfl (.agg (.tmp 0 rfl)) rfl s58) ?_
        show Nx _ _ _ _ _ [(79, .agg (cA2I (A2I.mk 0 0))), (78, B ((decide (v_t32 < v_a4)) || (decide (v_t33 < v_a4)))), (8, .ref 101), (9, I v_t30), (10, I v_t31), (11, I v_t32), (12, I v_t33)] [(101, .var 58 [I ((A2I.mk 0 0).e0), I ((A2I.mk 0 0).e1)])]
        refine nx_nil ?_
        refine Says.ex (S' := [(8, .ref 101)]) (O' := [(101, .var 58 [I ((A2I.mk 0 0).e0), I ((A2I.mk 0 0).e1)])]) (says_pick [2] [0] rfl rfl) ?_
        refine ex_kx (hK33 _ _ ?_)
        refine cw_ret ?_
        refine ex_tr ?_
        cases h
        exact ex_doneV (.inl rfl) rfl (fun a w G V hs _ hS => resC rfl (.var (its := (cA2I (A2I.mk 0 0))) (.tmp 0 rfl) 0 rfl a58 s58 .nil) a w G V hs hS)
      · have h := ite_f hc h
        refine cw_skip ?_
        refine ex_kx (hK31 _ _ ?_)
        refine cw_seq fun K34 hK34 => ?_
        refine cw_region ?_
        refine nx_o (op_move (.tmp 2 rfl)) rfl ?_
        refine nx_o (op_move (.tmp 3 rfl)) rfl ?_
        refine nx_o (op_mul (.tmp 1 rfl) (.tmp 0 rfl)) rfl ?_
        refine nx_o (op_move (.tmp 8 rfl)) rfl ?_
        refine nx_o (op_mul (.tmp 1 rfl) (.tmp 0 rfl)) rfl ?_
        refine nx_o (op_move (.tmp 8 rfl)) rfl ?_
        refine nx_o (op_move (.tmp 9 rfl)) rfl ?_
        refine nx_o (op_mul (.tmp 1 rfl) (.tmp 0 rfl)) rfl ?_
        refine nx_o (op_move (.tmp 12 rfl)) rfl ?_
        refine nx_o (op_mul (.tmp 1 rfl) (.tmp 0 rfl)) rfl ?_
        obtain ⟨v_t35, hv_t35, h⟩ := bnd h
        refine nx_o (OpX.named hv_t35 (op_add (.tmp 5 rfl) (.tmp 0 rfl))) rfl ?_
        refine nx_o (op_move (.tmp 15 rfl)) rfl ?_
        refine nx_o (op_move (.tmp 17 rfl)) rfl ?_
        refine nx_o (op_mul (.tmp 1 rfl) (.tmp 0 rfl)) rfl ?_
        refine nx_o (op_buildA (l := (cA2I (A2I.mk v_t35 (w64 (v_t32 * v_t33))))) (cA2I (A2I.mk 0 0)) za58 u58 s3 zA2I (.cons (.c (.tmp 3 rfl)) rfl (Nat.le_of_ble_eq_true rfl) (.cons (.c (.tmp 0 rfl)) rfl (Nat.le_of_ble_eq_true rfl) .nil)) rfl) rfl ?_
        refine nx_o0 (op_storeVA (its := (cA2I (A2I.mk v_t35 (w64 (v_t32 * v_t33))))) (.tmp 16 rfl) 0 rfl (.agg (.tmp 0 rfl)) rfl s58) ?_
        show Nx _ _ _ _ _ [(94, .agg (cA2I (A2I.mk v_t35 (w64 (v_t32 * v_t33))))), (93, I (w64 (v_t32 * v_t33))), (92, I v_t33), (91, I v_t32), (90, I v_t35), (89, I (w64 ((w64 (v_t31 * v_t31)) * v_t32))), (88, I v_t32), (87, I (w64 (v_t31 * v_t31))), (86, I v_t31), (85, I v_t31), (84, I (w64 ((w64 (v_t30 * v_t30)) * v_t33))), (83, I v_t33), (82, I (w64 (v_t30 * v_t30))), (81, I v_t30), (80, I v_t30), (78, B ((decide (v_t32 < v_a4)) || (decide (v_t33 < v_a4)))), (8, .ref 101), (9, I v_t30), (10, I v_t31), (11, I v_t32), (12, I v_t33)] [(101, .var 58 [I ((A2I.mk v_t35 (w64 (v_t32 * v_t33))).e0), I ((A2I.mk v_t35 (w64 (v_t32 * v_t33))).e1)])]
        refine nx_nil ?_
        refine Says.ex (S' := [(8, .ref 101)]) (O' := [(101, .var 58 [I ((A2I.mk v_t35 (w64 (v_t32 * v_t33))).e0), I ((A2I.mk v_t35 (w64 (v_t32 * v_t33))).e1)])]) (says_pick [16] [0] rfl rfl) ?_
        refine ex_kx (hK34 _ _ ?_)
        refine cw_ret ?_
        cases h
        exact ex_doneV (.inl rfl) rfl (fun a w G V hs _ hS => resC rfl (.var (its := (cA2I (A2I.mk v_t35 (w64 (v_t32 * v_t33))))) (.tmp 0 rfl) 0 rfl a58 s58 .nil) a w G V hs hS)
  ·
    refine cw_seq fun K35 hK35 => ?_
    refine cw_region ?_
    refine nx_o (op_assign (Can.int _ _ _)) rfl ?_
    refine nx_nil ?_
    refine ex_kx (hK35 _ _ ?_)
    refine cw_block ?_
    refine Says.cw (S' := [(0, SL 2 cSample v_a1), (1, I v_a2), (2, I v_a3), (3, I v_a4), (8, .ref 101), (9, I 0), (10, I 0), (11, I 0), (12, I 0), (13, I 0)]) (O' := [(101, .var 58 [I 0, I 0])]) (says_pick [6, 7, 8, 9, 5, 4, 3, 2, 1, 0] [0] rfl rfl) ?_
    refine cw_loopJ (fun n S O => ∃ (v_t51 : Int) (v_t52 : Int) (v_t53 : Int) (v_t54 : Int) (v_t55 : Int), orchlaw2_right_l1 N v_a1 v_a2 v_a3 v_a4 n v_t51 v_t52 v_t53 v_t54 v_t55 = some r ∧ S = [(0, SL 2 cSample v_a1), (1, I v_a2), (2, I v_a3), (3, I v_a4), (8, .ref 101), (9, I v_t51), (10, I v_t52), (11, I v_t53), (12, I v_t54), (13, I v_t55)] ∧ O = [(101, .var 58 [I 0, I 0])]) ?_ ?_ N ⟨0, 0, 0, 0, 0, h, rfl, rfl⟩
    · rintro S O ⟨v_t51, v_t52, v_t53, v_t54, v_t55, h, -, -⟩
      simp [orchlaw2_right_l1] at h
    · rintro n_1 S O ⟨v_t51, v_t52, v_t53, v_t54, v_t55, h, rfl, rfl⟩ K48 hK48
      rw [orchlaw2_right_l1] at h
      refine cw_seq fun K49 hK49 => ?_
      refine cw_seq fun K50 hK50 => ?_
      refine cw_region ?_
      refine nx_o (op_move (.tmp 9 rfl)) rfl ?_
      refine nx_o (op_move (.tmp 1 rfl)) rfl ?_
      refine nx_o (op_len (.tmp 0 rfl) u22) rfl ?_
      refine nx_o (op_lss (.tmp 2 rfl) (.tmp 0 rfl)) rfl ?_
      refine nx_nil ?_
      refine Says.ex (S' := [(17, B (decide (v_t55 < (v_a1.length : Int)))), (0, SL 2 cSample v_a1), (1, I v_a2), (2, I v_a3), (3, I v_a4), (8, .ref 101), (9, I v_t51), (10, I v_t52), (11, I v_t53), (12, I v_t54), (13, I v_t55)]) (O' := [(101, .var 58 [I 0, I 0])]) (says_pick [0, 4, 5, 6, 7, 8, 9, 10, 11, 12, 13] [0] rfl rfl) ?_
      refine ex_kx (hK50 _ _ ?_)
      refine cw_cond (b := (decide (v_t55 < (v_a1.length : Int)))) (.tmp 0 rfl) (fun hc => ?_) (fun hc => ?_)
      · have h := ite_t hc h
        refine cw_skip ?_
        refine ex_kx (hK49 _ _ ?_)
        refine cw_seq fun K51 hK51 => ?_
        refine cw_block ?_
        refine cw_seq fun K52 hK52 => ?_
        refine cw_region ?_
        refine nx_o (op_move (.tmp 1 rfl)) rfl ?_
        refine nx_o (op_move (.tmp 11 rfl)) rfl ?_
        obtain ⟨v_y56, hv_y56, h⟩ := bnd h
        refine nx_o (op_indexX hv_y56 (.tmp 1 rfl) (.tmp 0 rfl) u22 s25) rfl ?_
        refine nx_o (op_field (.tmp 0 rfl) o25_0) rfl ?_
        refine nx_o (op_load1 (.tmp 0 rfl) a23) rfl ?_
        refine nx_o (op_len (.tmp 0 rfl) u23) rfl ?_
        refine nx_o (op_move (.tmp 8 rfl)) rfl ?_
        refine nx_o (op_gtr (.tmp 1 rfl) (.tmp 0 rfl)) rfl ?_
        refine nx_o (op_move (.tmp 0 rfl)) rfl ?_
        refine nx_g (opy_guard (cc := (decide ((v_y56.row.length : Int) > v_a2))) (.plain 0 rfl) rfl rfl (fun hg => (op_move (.tmp 10 rfl)))) rfl ?_
        refine nx_g (opy_guard (cc := (decide ((v_y56.row.length : Int) > v_a2))) (.plain 1 rfl) rfl rfl (fun hg => (op_move (.tmp 20 rfl)))) rfl ?_
        obtain ⟨v_y57, hv_y57, h⟩ := bnd h
        refine nx_g (opy_guard (cc := (decide ((v_y56.row.length : Int) > v_a2))) (.plain 2 rfl) rfl rfl (fun hg => (op_indexX (gd_t hg hv_y57) (.cd 1 rfl hg) (.cd 0 rfl hg) u22 s25))) rfl ?_
        refine nx_g (opy_guard (cc := (decide ((v_y56.row.length : Int) > v_a2))) (.plain 3 rfl) rfl rfl (fun hg => (op_field (.cd 0 rfl hg) o25_0))) rfl ?_
        refine nx_g (opy_guard (cc := (decide ((v_y56.row.length : Int) > v_a2))) (.plain 4 rfl) rfl rfl (fun hg => (op_load1 (.cd 0 rfl hg) a23))) rfl ?_
        refine nx_g (opy_guard (cc := (decide ((v_y56.row.length : Int) > v_a2))) (.plain 5 rfl) rfl rfl (fun hg => (op_move (.tmp 16 rfl)))) rfl ?_
        obtain ⟨v_y58, hv_y58, h⟩ := bnd h
        refine nx_g (opy_guard (cc := (decide ((v_y56.row.length : Int) > v_a2))) (.plain 6 rfl) rfl rfl (fun hg => (op_indexX (gd_t hg hv_y58) (.cd 1 rfl hg) (.cd 0 rfl hg) u23 s3))) rfl ?_
        refine nx_g (opy_guard (cc := (decide ((v_y56.row.length : Int) > v_a2))) (.plain 7 rfl) rfl rfl (fun hg => (op_load1 (.cd 0 rfl hg) a3))) rfl ?_
        refine nx_g (opy_guard (cc := (decide ((v_y56.row.length : Int) > v_a2))) (.plain 8 rfl) rfl rfl (fun hg => (op_move (.tmp 20 rfl)))) rfl ?_
        refine nx_g (opy_guard (cc := (decide ((v_y56.row.length : Int) > v_a2))) (.plain 9 rfl) rfl rfl (fun hg => (op_lss (.cd 1 rfl hg) (.cd 0 rfl hg)))) rfl ?_
        refine nx_o (op_and (.tmp 10 rfl) (fun hp => (.cd 0 rfl hp))) rfl ?_
        refine nx_nil ?_
        refine Says.ex (S' := [(39, B ((decide ((v_y56.row.length : Int) > v_a2)) && (decide (v_y58 < v_a3)))), (0, SL 2 cSample v_a1), (1, I v_a2), (2, I v_a3), (3, I v_a4), (8, .ref 101), (9, I v_t51), (10, I v_t52), (11, I v_t53), (12, I v_t54), (13, I v_t55)]) (O' := [(101, .var 58 [I 0, I 0])]) (says_pick [0, 21, 22, 23, 24, 25, 26, 27, 28, 29, 30] [0] rfl rfl) ?_
        refine ex_kx (hK52 _ _ ?_)
        refine cw_cond (b := ((decide ((v_y56.row.length : Int) > v_a2)) && (decide (v_y58 < v_a3)))) (.tmp 0 rfl) (fun hc => ?_) (fun hc => ?_)
        · have h := ite_t hc h
          refine cw_seq fun K53 hK53 => ?_
          refine cw_region ?_
          refine nx_o (op_move (.tmp 6 rfl)) rfl ?_
          refine nx_o (op_move (.tmp 2 rfl)) rfl ?_
          refine nx_o (op_move (.tmp 12 rfl)) rfl ?_
          obtain ⟨v_y59, hv_y59, h⟩ := bnd h
          refine nx_o (op_indexX hv_y59 (.tmp 1 rfl) (.tmp 0 rfl) u22 s25) rfl ?_
          refine nx_o (op_field (.tmp 0 rfl) o25_1) rfl ?_
          refine nx_o (op_load1 (.tmp 0 rfl) a3) rfl ?_
          refine nx_o (op_add (.tmp 5 rfl) (.tmp 0 rfl)) rfl ?_
          refine nx_k [0, 1, 2, 3, 4, 5, 6, 7, 8, 9, 10, 11, 12, 14, 15, 16, 17] (op_assign (.tmp 0 rfl)) rfl rfl ?_
          show Nx _ _ _ _ _ [(9, I (w64 (v_t51 + v_y59.target))), (46, I (w64 (v_t51 + v_y59.target))), (45, I v_y59.target), (44, .ptr ((cSample v_y59).drop 1)), (43, .ptr (cSample v_y59)), (42, I v_t55), (41, SL 2 cSample v_a1), (40, I v_t51), (39, B ((decide ((v_y56.row.length : Int) > v_a2)) && (decide (v_y58 < v_a3)))), (0, SL 2 cSample v_a1), (1, I v_a2), (2, I v_a3), (3, I v_a4), (8, .ref 101), (10, I v_t52), (11, I v_t53), (12, I v_t54), (13, I v_t55)] [(101, .var 58 [I 0, I 0])]
          refine nx_nil ?_
          refine Says.ex (S' := [(9, I (w64 (v_t51 + v_y59.target))), (0, SL 2 cSample v_a1), (1, I v_a2), (2, I v_a3), (3, I v_a4), (8, .ref 101), (10, I v_t52), (11, I v_t53), (12, I v_t54), (13, I v_t55)]) (O' := [(101, .var 58 [I 0, I 0])]) (says_pick [0, 9, 10, 11, 12, 13, 14, 15, 16, 17] [0] rfl rfl) ?_
          refine ex_kx (hK53 _ _ ?_)
          refine cw_region ?_
          refine nx_o (op_move (.tmp 7 rfl)) rfl ?_
          refine nx_o (op_add (.tmp 0 rfl) (Can.int _ _ _)) rfl ?_
          refine nx_k [0, 1, 2, 3, 4, 5, 6, 7, 8, 10, 11] (op_assign (.tmp 0 rfl)) rfl rfl ?_
          show Nx _ _ _ _ _ [(11, I (w64 (v_t53 + 1))), (48, I (w64 (v_t53 + 1))), (47, I v_t53), (9, I (w64 (v_t51 + v_y59.target))), (0, SL 2 cSample v_a1), (1, I v_a2), (2, I v_a3), (3, I v_a4), (8, .ref 101), (10, I v_t52), (12, I v_t54), (13, I v_t55)] [(101, .var 58 [I 0, I 0])]
          refine nx_nil ?_
          refine Says.ex (S' := [(11, I (w64 (v_t53 + 1))), (9, I (w64 (v_t51 + v_y59.target))), (0, SL 2 cSample v_a1), (1, I v_a2), (2, I v_a3), (3, I v_a4), (8, .ref 101), (10, I v_t52), (12, I v_t54), (13, I v_t55)]) (O' := [(101, .var 58 [I 0, I 0])]) (says_pick [0, 3, 4, 5, 6, 7, 8, 9, 10, 11] [0] rfl rfl) ?_
          refine ex_bn ?_
          refine ex_kx (hK51 _ _ ?_)
          refine cw_region ?_
          refine nx_o (op_move (.tmp 9 rfl)) rfl ?_
          refine nx_o (op_add (.tmp 0 rfl) (Can.int _ _ _)) rfl ?_
          refine nx_k [0, 1, 2, 3, 4, 5, 6, 7, 8, 9, 10] (op_assign (.tmp 0 rfl)) rfl rfl ?_
          show Nx _ _ _ _ _ [(13, I (w64 (v_t55 + 1))), (19, I (w64 (v_t55 + 1))), (18, I v_t55), (11, I (w64 (v_t53 + 1))), (9, I (w64 (v_t51 + v_y59.target))), (0, SL 2 cSample v_a1), (1, I v_a2), (2, I v_a3), (3, I v_a4), (8, .ref 101), (10, I v_t52), (12, I v_t54)] [(101, .var 58 [I 0, I 0])]
          refine nx_nil ?_
          refine Says.ex (S' := [(13, I (w64 (v_t55 + 1))), (11, I (w64 (v_t53 + 1))), (9, I (w64 (v_t51 + v_y59.target))), (0, SL 2 cSample v_a1), (1, I v_a2), (2, I v_a3), (3, I v_a4), (8, .ref 101), (10, I v_t52), (12, I v_t54)]) (O' := [(101, .var 58 [I 0, I 0])]) (says_pick [0, 3, 4, 5, 6, 7, 8, 9, 10, 11] [0] rfl rfl) ?_
          refine ex_kx ?_
          refine Says.kx (S' := [(0, SL 2 cSample v_a1), (1, I v_a2), (2, I v_a3), (3, I v_a4), (8, .ref 101), (9, I (w64 (v_t51 + v_y59.target))), (10, I v_t52), (11, I (w64 (v_t53 + 1))), (12, I v_t54), (13, I (w64 (v_t55 + 1)))]) (O' := [(101, .var 58 [I 0, I 0])]) (says_pick [3, 4, 5, 6, 7, 2, 8, 1, 9, 0] [0] rfl rfl) ?_
          exact hK48 _ _ ⟨w64 (v_t51 + v_y59.target), v_t52, w64 (v_t53 + 1), v_t54, w64 (v_t55 + 1), h, rfl, rfl⟩
        · have h := ite_f hc h
          refine cw_seq fun K54 hK54 => ?_
          refine cw_region ?_
          refine nx_o (op_move (.tmp 7 rfl)) rfl ?_
          refine nx_o (op_move (.tmp 2 rfl)) rfl ?_
          refine nx_o (op_move (.tmp 12 rfl)) rfl ?_
          obtain ⟨v_y60, hv_y60, h⟩ := bnd h
          refine nx_o (op_indexX hv_y60 (.tmp 1 rfl) (.tmp 0 rfl) u22 s25) rfl ?_
          refine nx_o (op_field (.tmp 0 rfl) o25_1) rfl ?_
          refine nx_o (op_load1 (.tmp 0 rfl) a3) rfl ?_
          refine nx_o (op_add (.tmp 5 rfl) (.tmp 0 rfl)) rfl ?_
          refine nx_k [0, 1, 2, 3, 4, 5, 6, 7, 8, 9, 10, 11, 12, 13, 15, 16, 17] (op_assign (.tmp 0 rfl)) rfl rfl ?_
          show Nx _ _ _ _ _ [(10, I (w64 (v_t52 + v_y60.target))), (55, I (w64 (v_t52 + v_y60.target))), (54, I v_y60.target), (53, .ptr ((cSample v_y60).drop 1)), (52, .ptr (cSample v_y60)), (51, I v_t55), (50, SL 2 cSample v_a1), (49, I v_t52), (39, B ((decide ((v_y56.row.length : Int) > v_a2)) && (decide (v_y58 < v_a3)))), (0, SL 2 cSample v_a1), (1, I v_a2), (2, I v_a3), (3, I v_a4), (8, .ref 101), (9, I v_t51), (11, I v_t53), (12, I v_t54), (13, I v_t55)] [(101, .var 58 [I 0, I 0])]
          refine nx_nil ?_
          refine Says.ex (S' := [(10, I (w64 (v_t52 + v_y60.target))), (0, SL 2 cSample v_a1), (1, I v_a2), (2, I v_a3), (3, I v_a4), (8, .ref 101), (9, I v_t51), (11, I v_t53), (12, I v_t54), (13, I v_t55)]) (O' := [(101, .var 58 [I 0, I 0])]) (says_pick [0, 9, 10, 11, 12, 13, 14, 15, 16, 17] [0] rfl rfl) ?_
          refine ex_kx (hK54 _ _ ?_)
          refine cw_region ?_
          refine nx_o (op_move (.tmp 8 rfl)) rfl ?_
          refine nx_o (op_add (.tmp 0 rfl) (Can.int _ _ _)) rfl ?_
          refine nx_k [0, 1, 2, 3, 4, 5, 6, 7, 8, 9, 11] (op_assign (.tmp 0 rfl)) rfl rfl ?_
          show Nx _ _ _ _ _ [(12, I (w64 (v_t54 + 1))), (57, I (w64 (v_t54 + 1))), (56, I v_t54), (10, I (w64 (v_t52 + v_y60.target))), (0, SL 2 cSample v_a1), (1, I v_a2), (2, I v_a3), (3, I v_a4), (8, .ref 101), (9, I v_t51), (11, I v_t53), (13, I v_t55)] [(101, .var 58 [I 0, I 0])]
          refine nx_nil ?_
          refine Says.ex (S' := [(12, I (w64 (v_t54 + 1))), (10, I (w64 (v_t52 + v_y60.target))), (0, SL 2 cSample v_a1), (1, I v_a2), (2, I v_a3), (3, I v_a4), (8, .ref 101), (9, I v_t51), (11, I v_t53), (13, I v_t55)]) (O' := [(101, .var 58 [I 0, I 0])]) (says_pick [0, 3, 4, 5, 6, 7, 8, 9, 10, 11] [0] rfl rfl) ?_
          refine ex_bn ?_
          refine ex_kx (hK51 _ _ ?_)
          refine cw_region ?_
          refine nx_o (op_move (.tmp 9 rfl)) rfl ?_
          refine nx_o (op_add (.tmp 0 rfl) (Can.int _ _ _)) rfl ?_
          refine nx_k [0, 1, 2, 3, 4, 5, 6, 7, 8, 9, 10] (op_assign (.tmp 0 rfl)) rfl rfl ?_
          show Nx _ _ _ _ _ [(13, I (w64 (v_t55 + 1))), (19, I (w64 (v_t55 + 1))), (18, I v_t55), (12, I (w64 (v_t54 + 1))), (10, I (w64 (v_t52 + v_y60.target))), (0, SL 2 cSample v_a1), (1, I v_a2), (2, I v_a3), (3, I v_a4), (8, .ref 101), (9, I v_t51), (11, I v_t53)] [(101, .var 58 [I 0, I 0])]
          refine nx_nil ?_
          refine Says.ex (S' := [(13, I (w64 (v_t55 + 1))), (12, I (w64 (v_t54 + 1))), (10, I (w64 (v_t52 + v_y60.target))), (0, SL 2 cSample v_a1), (1, I v_a2), (2, I v_a3), (3, I v_a4), (8, .ref 101), (9, I v_t51), (11, I v_t53)]) (O' := [(101, .var 58 [I 0, I 0])]) (says_pick [0, 3, 4, 5, 6, 7, 8, 9, 10, 11] [0] rfl rfl) ?_
          refine ex_kx ?_
          refine Says.kx (S' := [(0, SL 2 cSample v_a1), (1, I v_a2), (2, I v_a3), (3, I v_a4), (8, .ref 101), (9, I v_t51), (10, I (w64 (v_t52 + v_y60.target))), (11, I v_t53), (12, I (w64 (v_t54 + 1))), (13, I (w64 (v_t55 + 1)))]) (O' := [(101, .var 58 [I 0, I 0])]) (says_pick [3, 4, 5, 6, 7, 8, 2, 9, 1, 0] [0] rfl rfl) ?_
          exact hK48 _ _ ⟨v_t51, w64 (v_t52 + v_y60.target), v_t53, w64 (v_t54 + 1), w64 (v_t55 + 1), h, rfl, rfl⟩
      · have h := ite_f hc h
        refine cw_exit ?_
        refine ex_te ?_
        refine ex_te ?_
        refine ex_be ?_
        refine ex_kx ?_
        refine Says.kx (S' := [(3, I v_a4), (8, .ref 101), (9, I v_t51), (10, I v_t52), (11, I v_t53), (12, I v_t54)]) (O' := [(101, .var 58 [I 0, I 0])]) (says_pick [4, 5, 6, 7, 8, 9] [0] rfl rfl) ?_
        exact hK27 _ _ ⟨v_t51, v_t52, v_t53, v_t54, h, rfl, rfl⟩

theorem f5_fn (N : Nat) (v_a1 : List Sample) (v_a2 : Int) (v_a3 : Int) (v_a4 : Int) (v_a5 : Int) (v_a6 : Int) (r : Bool) (h : orchlaw2_GrowLearns N v_a1 v_a2 v_a3 v_a4 v_a5 v_a6 = some r) : Fn Go.Proofs.Try.prog 5 [SL 2 cSample v_a1, I v_a2, I v_a3, I v_a4, I v_a5, I v_a6] [] (B r) [] := by
  unfold orchlaw2_GrowLearns at h
  refine fn_intro [] fun5 rfl rfl (Nat.le_of_ble_eq_true rfl) rfl rfl (fun w G V => ?_)
  show Cw _ _ _ _ [(0, SL 2 cSample v_a1), (1, I v_a2), (2, I v_a3), (3, I v_a4), (4, I v_a5), (5, I v_a6)] []
  refine cw_seq fun K1 hK1 => ?_
  refine cw_region ?_
  refine nx_o (op_assign (Can.bool _ _)) rfl ?_
  refine nx_nil ?_
  refine Says.ex (S' := [(0, SL 2 cSample v_a1), (1, I v_a2), (2, I v_a3), (3, I v_a4), (4, I v_a5), (5, I v_a6)]) (O' := []) (says_pick [1, 2, 3, 4, 5, 6] [] rfl rfl) ?_
  refine ex_kx (hK1 _ _ ?_)
  refine cw_seq fun K2 hK2 => ?_
  refine cw_region ?_
  refine nx_o (op_buildSlice (cI 0) (n := 1) (c := cI) ([1] : List Int) bl23 zI (by decide) (by decide) (.cons (.c (Can.int _ _ _)) rfl (Nat.le_of_ble_eq_true rfl) .nil) rfl rfl (fun _ => rfl)) rfl ?_
  refine nx_o (op_build (l := (cSample (Sample.mk [1] 0))) (cSample (Sample.mk [] 0)) bs25 zSample (.cons (.c (.tmp 0 rfl)) rfl (Nat.le_of_ble_eq_true rfl) (.cons (.c (Can.int _ _ _)) rfl (Nat.le_of_ble_eq_true rfl) .nil)) rfl) rfl ?_
  refine nx_o (op_buildSlice (cI 0) (n := 1) (c := cI) ([2] : List Int) bl23 zI (by decide) (by decide) (.cons (.c (Can.int _ _ _)) rfl (Nat.le_of_ble_eq_true rfl) .nil) rfl rfl (fun _ => rfl)) rfl ?_
  refine nx_o (op_build (l := (cSample (Sample.mk [2] 0))) (cSample (Sample.mk [] 0)) bs25 zSample (.cons (.c (.tmp 0 rfl)) rfl (Nat.le_of_ble_eq_true rfl) (.cons (.c (Can.int _ _ _)) rfl (Nat.le_of_ble_eq_true rfl) .nil)) rfl) rfl ?_
  refine nx_o (op_buildSlice (cI 0) (n := 1) (c := cI) ([3] : List Int) bl23 zI (by decide) (by decide) (.cons (.c (Can.int _ _ _)) rfl (Nat.le_of_ble_eq_true rfl) .nil) rfl rfl (fun _ => rfl)) rfl ?_
  refine nx_o (op_build (l := (cSample (Sample.mk [3] 9))) (cSample (Sample.mk [] 0)) bs25 zSample (.cons (.c (.tmp 0 rfl)) rfl (Nat.le_of_ble_eq_true rfl) (.cons (.c (Can.int _ _ _)) rfl (Nat.le_of_ble_eq_true rfl) .nil)) rfl) rfl ?_
  refine nx_o (op_buildSlice (cI 0) (n := 1) (c := cI) ([4] : List Int) bl23 zI (by decide) (by decide) (.cons (.c (Can.int _ _ _)) rfl (Nat.le_of_ble_eq_true rfl) .nil) rfl rfl (fun _ => rfl)) rfl ?_
  refine nx_o (op_build (l := (cSample (Sample.mk [4] 9))) (cSample (Sample.mk [] 0)) bs25 zSample (.cons (.c (.tmp 0 rfl)) rfl (Nat.le_of_ble_eq_true rfl) (.cons (.c (Can.int _ _ _)) rfl (Nat.le_of_ble_eq_true rfl) .nil)) rfl) rfl ?_
  refine nx_o (op_buildSlice (cSample (Sample.mk [] 0)) (n := 2) (c := cSample) ([(Sample.mk [1] 0), (Sample.mk [2] 0), (Sample.mk [3] 9), (Sample.mk [4] 9)] : List Sample) bl22 zSample (by decide) (by decide) (.cons (.agg (.tmp 6 rfl)) rfl (Nat.le_of_ble_eq_true rfl) (.cons (.agg (.tmp 4 rfl)) rfl (Nat.le_of_ble_eq_true rfl) (.cons (.agg (.tmp 2 rfl)) rfl (Nat.le_of_ble_eq_true rfl) (.cons (.agg (.tmp 0 rfl)) rfl (Nat.le_of_ble_eq_true rfl) .nil)))) rfl rfl (fun _ => rfl)) rfl ?_
  refine nx_o (op_assign (.tmp 0 rfl)) rfl ?_
  refine nx_nil ?_
  refine Says.ex (S' := [(13, SL 2 cSample [(Sample.mk [1] 0), (Sample.mk [2] 0), (Sample.mk [3] 9), (Sample.mk [4] 9)]), (0, SL 2 cSample v_a1), (1, I v_a2), (2, I v_a3), (3, I v_a4), (4, I v_a5), (5, I v_a6)]) (O' := []) (says_pick [0, 10, 11, 12, 13, 14, 15] [] rfl rfl) ?_
  refine ex_kx (hK2 _ _ ?_)
  refine cw_seq fun K3 hK3 => ?_
  refine cw_region ?_
  refine nx_o (op_move (.tmp 0 rfl)) rfl ?_
  obtain ⟨v_r7, hv_r7, h⟩ := bnd h
  refine nx_o (op_call0 (show Fn Go.Proofs.Try.prog 10 [SL 2 cSample [(Sample.mk [1] 0), (Sample.mk [2] 0), (Sample.mk [3] 9), (Sample.mk [4] 9)], I 1, I 1, I 1] [] (.tup [SL 6 cNode v_r7.1, Er TE v_r7.2]) [] from (f10_fn N [(Sample.mk [1] 0), (Sample.mk [2] 0), (Sample.mk [3] 9), (Sample.mk [4] 9)] 1 1 1 _ hv_r7)) c10 (.cons (.tmp 0 rfl) (.cons (Can.int _ _ _) (.cons (Can.int _ _ _) (.cons (Can.int _ _ _) .nil))))) rfl ?_
  refine nx_o (op_move (.tmp 0 rfl)) rfl ?_
  refine nx_o (op_extract (.tmp 0 rfl) rfl) rfl ?_
  refine nx_o (op_extract (.tmp 1 rfl) rfl) rfl ?_
  refine nx_o (op_assign (.tmp 1 rfl)) rfl ?_
  refine nx_o (op_assign (.tmp 1 rfl)) rfl ?_
  refine nx_nil ?_
  refine Says.ex (S' := [(15, Er TE v_r7.2), (14, SL 6 cNode v_r7.1), (0, SL 2 cSample v_a1), (1, I v_a2), (2, I v_a3), (3, I v_a4), (4, I v_a5), (5, I v_a6)]) (O' := []) (says_pick [0, 1, 8, 9, 10, 11, 12, 13] [] rfl rfl) ?_
  refine ex_kx (hK3 _ _ ?_)
  refine cw_seq fun K4 hK4 => ?_
  refine cw_seq fun K5 hK5 => ?_
  refine cw_region ?_
  refine nx_o (op_move (.tmp 0 rfl)) rfl ?_
  refine nx_o (op_neqNil (.tmp 0 rfl) u28) rfl ?_
  refine nx_o (op_move (.tmp 0 rfl)) rfl ?_
  refine nx_g (opy_guard (cc := (!v_r7.2.isSome)) (.plain 0 rfl) rfl rfl (fun hg => (op_move (.tmp 4 rfl)))) rfl ?_
  refine nx_g (opy_guard (cc := (!v_r7.2.isSome)) (.plain 1 rfl) rfl rfl (fun hg => (op_len (.cd 0 rfl hg) u26))) rfl ?_
  refine nx_g (opy_guard (cc := (!v_r7.2.isSome)) (.plain 2 rfl) rfl rfl (fun hg => (op_neq (.cd 0 rfl hg) (Can.int _ _ _)))) rfl ?_
  refine nx_o (op_or (.tmp 3 rfl) (fun hp => (.cd 0 rfl (not_t hp)))) rfl ?_
  refine nx_o (op_move (.tmp 0 rfl)) rfl ?_
  refine nx_g (opy_guard (cc := (!(v_r7.2.isSome || ((v_r7.1.length : Int) != 3)))) (.plain 0 rfl) rfl rfl (fun hg => (op_move (.tmp 9 rfl)))) rfl ?_
  obtain ⟨v_y8, hv_y8, h⟩ := bnd h
  refine nx_g (opy_guard (cc := (!(v_r7.2.isSome || ((v_r7.1.length : Int) != 3)))) (.plain 1 rfl) rfl rfl (fun hg => (op_indexX (gd_t hg hv_y8) (.cd 0 rfl hg) (Can.int _ _ _) u26 s32))) rfl ?_
  refine nx_g (opy_guard (cc := (!(v_r7.2.isSome || ((v_r7.1.length : Int) != 3)))) (.plain 2 rfl) rfl rfl (fun hg => (op_field (.cd 0 rfl hg) o32_1))) rfl ?_
  refine nx_g (opy_guard (cc := (!(v_r7.2.isSome || ((v_r7.1.length : Int) != 3)))) (.plain 3 rfl) rfl rfl (fun hg => (op_load1 (.cd 0 rfl hg) a3))) rfl ?_
  refine nx_g (opy_guard (cc := (!(v_r7.2.isSome || ((v_r7.1.length : Int) != 3)))) (.plain 4 rfl) rfl rfl (fun hg => (op_neq (.cd 0 rfl hg) (Can.int _ _ _)))) rfl ?_
  refine nx_o (op_or (.tmp 5 rfl) (fun hp => (.cd 0 rfl (not_t hp)))) rfl ?_
  refine nx_o (op_move (.tmp 0 rfl)) rfl ?_
  refine nx_g (opy_guard (cc := (!((v_r7.2.isSome || ((v_r7.1.length : Int) != 3)) || (v_y8.cut != 3)))) (.plain 0 rfl) rfl rfl (fun hg => (op_move (.tmp 16 rfl)))) rfl ?_
  obtain ⟨v_y9, hv_y9, h⟩ := bnd h
  refine nx_g (opy_guard (cc := (!((v_r7.2.isSome || ((v_r7.1.length : Int) != 3)) || (v_y8.cut != 3)))) (.plain 1 rfl) rfl rfl (fun hg => (op_indexX (gd_t hg hv_y9) (.cd 0 rfl hg) (Can.int _ _ _) u26 s32))) rfl ?_
  refine nx_g (opy_guard (cc := (!((v_r7.2.isSome || ((v_r7.1.length : Int) != 3)) || (v_y8.cut != 3)))) (.plain 2 rfl) rfl rfl (fun hg => (op_field (.cd 0 rfl hg) o32_5))) rfl ?_
  refine nx_g (opy_guard (cc := (!((v_r7.2.isSome || ((v_r7.1.length : Int) != 3)) || (v_y8.cut != 3)))) (.plain 3 rfl) rfl rfl (fun hg => (op_load1 (.cd 0 rfl hg) a3))) rfl ?_
  refine nx_g (opy_guard (cc := (!((v_r7.2.isSome || ((v_r7.1.length : Int) != 3)) || (v_y8.cut != 3)))) (.plain 4 rfl) rfl rfl (fun hg => (op_neq (.cd 0 rfl hg) (Can.int _ _ _)))) rfl ?_
  refine nx_o (op_or (.tmp 5 rfl) (fun hp => (.cd 0 rfl (not_t hp)))) rfl ?_
  refine nx_nil ?_
  refine Says.ex (S' := [(73, B (((v_r7.2.isSome || ((v_r7.1.length : Int) != 3)) || (v_y8.cut != 3)) || (v_y9.value != 9))), (0, SL 2 cSample v_a1), (1, I v_a2), (2, I v_a3), (3, I v_a4), (4, I v_a5), (5, I v_a6)]) (O' := []) (says_pick [0, 23, 24, 25, 26, 27, 28] [] rfl rfl) ?_
  refine ex_kx (hK5 _ _ ?_)
  refine cw_cond (b := (((v_r7.2.isSome || ((v_r7.1.length : Int) != 3)) || (v_y8.cut != 3)) || (v_y9.value != 9))) (.tmp 0 rfl) (fun hc => ?_) (fun hc => ?_)
  · have h := ite_t hc h
    refine cw_seq fun K6 hK6 => ?_
    refine cw_region ?_
    refine nx_o (op_assign (Can.bool _ _)) rfl ?_
    refine nx_nil ?_
    refine Says.ex (S' := [(12, B false)]) (O' := []) (says_pick [0] [] rfl rfl) ?_
    refine ex_kx (hK6 _ _ ?_)
    refine cw_ret ?_
    refine ex_tr ?_
    cases h
    exact ex_done (.inl rfl) rfl (fun a w G V hs _ hS => res1 rfl (.tmp 0 rfl) a w G V hS)
  · have h := ite_f hc h
    refine cw_skip ?_
    refine ex_kx (hK4 _ _ ?_)
    refine cw_seq fun K7 hK7 => ?_
    refine cw_region ?_
    refine nx_o (op_move (.tmp 1 rfl)) rfl ?_
    refine nx_o (op_move (.tmp 3 rfl)) rfl ?_
    refine nx_o (op_move (.tmp 5 rfl)) rfl ?_
    refine nx_o (op_move (.tmp 7 rfl)) rfl ?_
    obtain ⟨v_r10, hv_r10, h⟩ := bnd h
    refine nx_o (op_call0 (show Fn Go.Proofs.Try.prog 10 [SL 2 cSample v_a1, I v_a2, I v_a3, I v_a4] [] (.tup [SL 6 cNode v_r10.1, Er TE v_r10.2]) [] from (f10_fn N v_a1 v_a2 v_a3 v_a4 _ hv_r10)) c10 (.cons (.tmp 3 rfl) (.cons (.tmp 2 rfl) (.cons (.tmp 1 rfl) (.cons (.tmp 0 rfl) .nil))))) rfl ?_
    refine nx_o (op_move (.tmp 0 rfl)) rfl ?_
    refine nx_o (op_extract (.tmp 0 rfl) rfl) rfl ?_
    refine nx_o (op_extract (.tmp 1 rfl) rfl) rfl ?_
    refine nx_o (op_assign (.tmp 1 rfl)) rfl ?_
    refine nx_o (op_assign (.tmp 1 rfl)) rfl ?_
    refine nx_nil ?_
    refine Says.ex (S' := [(17, Er TE v_r10.2), (16, SL 6 cNode v_r10.1), (0, SL 2 cSample v_a1), (1, I v_a2), (2, I v_a3), (3, I v_a4), (4, I v_a5), (5, I v_a6)]) (O' := []) (says_pick [0, 1, 11, 12, 13, 14, 15, 16] [] rfl rfl) ?_
    refine ex_kx (hK7 _ _ ?_)
    refine cw_seq fun K8 hK8 => ?_
    refine cw_seq fun K9 hK9 => ?_
    refine cw_region ?_
    refine nx_o (op_move (.tmp 0 rfl)) rfl ?_
    refine nx_o (op_neqNil (.tmp 0 rfl) u28) rfl ?_
    refine nx_nil ?_
    refine Says.ex (S' := [(83, B v_r10.2.isSome), (16, SL 6 cNode v_r10.1), (0, SL 2 cSample v_a1), (1, I v_a2), (2, I v_a3), (3, I v_a4), (4, I v_a5), (5, I v_a6)]) (O' := []) (says_pick [0, 3, 4, 5, 6, 7, 8, 9] [] rfl rfl) ?_
    refine ex_kx (hK9 _ _ ?_)
    refine cw_cond (b := v_r10.2.isSome) (.tmp 0 rfl) (fun hc => ?_) (fun hc => ?_)
    · have h := ite_t hc h
      refine cw_seq fun K10 hK10 => ?_
      refine cw_region ?_
      refine nx_o (op_assign (Can.bool _ _)) rfl ?_
      refine nx_nil ?_
      refine Says.ex (S' := [(12, B true)]) (O' := []) (says_pick [0] [] rfl rfl) ?_
      refine ex_kx (hK10 _ _ ?_)
      refine cw_ret ?_
      refine ex_tr ?_
      cases h
      exact ex_done (.inl rfl) rfl (fun a w G V hs _ hS => res1 rfl (.tmp 0 rfl) a w G V hS)
    · have h := ite_f hc h
      refine cw_skip ?_
      refine ex_kx (hK8 _ _ ?_)
      refine cw_seq fun K11 hK11 => ?_
      refine cw_region ?_
      refine nx_o (op_move (.tmp 1 rfl)) rfl ?_
      refine nx_o (op_move (.tmp 4 rfl)) rfl ?_
      obtain ⟨v_r11, hv_r11, h⟩ := bnd h
      refine nx_o (op_call0 (show Fn Go.Proofs.Try.prog 18 [SL 6 cNode v_r10.1, I v_a2] [] (.tup [I v_r11.1, Er TE v_r11.2]) [] from (f18_fn N v_r10.1 v_a2 _ hv_r11)) c18 (.cons (.tmp 1 rfl) (.cons (.tmp 0 rfl) .nil))) rfl ?_
      refine nx_o (op_move (.tmp 0 rfl)) rfl ?_
      refine nx_o (op_extract (.tmp 0 rfl) rfl) rfl ?_
      refine nx_o (op_extract (.tmp 1 rfl) rfl) rfl ?_
      refine nx_o (op_assign (.tmp 1 rfl)) rfl ?_
      refine nx_o (op_assign (.tmp 1 rfl)) rfl ?_
      refine nx_nil ?_
      refine Says.ex (S' := [(19, Er TE v_r11.2), (16, SL 6 cNode v_r10.1), (0, SL 2 cSample v_a1), (1, I v_a2), (2, I v_a3), (3, I v_a4), (4, I v_a5), (5, I v_a6)]) (O' := []) (says_pick [0, 9, 10, 11, 12, 13, 14, 15] [] rfl rfl) ?_
      refine ex_kx (hK11 _ _ ?_)
      refine cw_seq fun K12 hK12 => ?_
      refine cw_region ?_
      refine nx_o (op_move (.tmp 1 rfl)) rfl ?_
      obtain ⟨v_r12, hv_r12, h⟩ := bnd h
      refine nx_o (op_call0 (show Fn Go.Proofs.Try.prog 19 [SL 6 cNode v_r10.1] [] (.tup [I v_r12.1, Er TE v_r12.2]) [] from (f19_fn N v_r10.1 _ hv_r12)) c19 (.cons (.tmp 0 rfl) .nil)) rfl ?_
      refine nx_o (op_move (.tmp 0 rfl)) rfl ?_
      refine nx_o (op_extract (.tmp 0 rfl) rfl) rfl ?_
      refine nx_o (op_extract (.tmp 1 rfl) rfl) rfl ?_
      refine nx_o (op_assign (.tmp 1 rfl)) rfl ?_
      refine nx_o (op_assign (.tmp 1 rfl)) rfl ?_
      refine nx_nil ?_
      refine Says.ex (S' := [(21, Er TE v_r12.2), (20, I v_r12.1), (19, Er TE v_r11.2), (16, SL 6 cNode v_r10.1), (0, SL 2 cSample v_a1), (1, I v_a2), (2, I v_a3), (3, I v_a4), (4, I v_a5), (5, I v_a6)]) (O' := []) (says_pick [0, 1, 7, 8, 9, 10, 11, 12, 13, 14] [] rfl rfl) ?_
      refine ex_kx (hK12 _ _ ?_)
      refine cw_seq fun K13 hK13 => ?_
      refine cw_seq fun K14 hK14 => ?_
      refine cw_region ?_
      refine nx_o (op_move (.tmp 2 rfl)) rfl ?_
      refine nx_o (op_neqNil (.tmp 0 rfl) u28) rfl ?_
      refine nx_o (op_move (.tmp 0 rfl)) rfl ?_
      refine nx_g (opy_guard (cc := (!v_r11.2.isSome)) (.plain 0 rfl) rfl rfl (fun hg => (op_move (.tmp 3 rfl)))) rfl ?_
      refine nx_g (opy_guard (cc := (!v_r11.2.isSome)) (.plain 1 rfl) rfl rfl (fun hg => (op_neqNil (.cd 0 rfl hg) u28))) rfl ?_
      refine nx_o (op_or (.tmp 2 rfl) (fun hp => (.cd 0 rfl (not_t hp)))) rfl ?_
      refine nx_o (op_move (.tmp 0 rfl)) rfl ?_
      refine nx_g (opy_guard (cc := (!(v_r11.2.isSome || v_r12.2.isSome))) (.plain 0 rfl) rfl rfl (fun hg => (op_move (.tmp 8 rfl)))) rfl ?_
      refine nx_g (opy_guard (cc := (!(v_r11.2.isSome || v_r12.2.isSome))) (.plain 1 rfl) rfl rfl (fun hg => (op_move (.tmp 14 rfl)))) rfl ?_
      refine nx_g (opy_guard (cc := (!(v_r11.2.isSome || v_r12.2.isSome))) (.plain 2 rfl) rfl rfl (fun hg => (op_gtr (.cd 1 rfl hg) (.cd 0 rfl hg)))) rfl ?_
      refine nx_o (op_or (.tmp 3 rfl) (fun hp => (.cd 0 rfl (not_t hp)))) rfl ?_
      refine nx_nil ?_
      refine Says.ex (S' := [(105, B ((v_r11.2.isSome || v_r12.2.isSome) || (decide (v_r12.1 > v_a3)))), (16, SL 6 cNode v_r10.1), (0, SL 2 cSample v_a1), (1, I v_a2), (2, I v_a3), (3, I v_a4), (4, I v_a5), (5, I v_a6)]) (O' := []) (says_pick [0, 14, 15, 16, 17, 18, 19, 20] [] rfl rfl) ?_
      refine ex_kx (hK14 _ _ ?_)
      refine cw_cond (b := ((v_r11.2.isSome || v_r12.2.isSome) || (decide (v_r12.1 > v_a3)))) (.tmp 0 rfl) (fun hc => ?_) (fun hc => ?_)
      · have h := ite_t hc h
        refine cw_seq fun K15 hK15 => ?_
        refine cw_region ?_
        refine nx_o (op_assign (Can.bool _ _)) rfl ?_
        refine nx_nil ?_
        refine Says.ex (S' := [(12, B false)]) (O' := []) (says_pick [0] [] rfl rfl) ?_
        refine ex_kx (hK15 _ _ ?_)
        refine cw_ret ?_
        refine ex_tr ?_
        cases h
        exact ex_done (.inl rfl) rfl (fun a w G V hs _ hS => res1 rfl (.tmp 0 rfl) a w G V hS)
      · have h := ite_f hc h
        refine cw_skip ?_
        refine ex_kx (hK13 _ _ ?_)
        refine cw_seq fun K16 hK16 => ?_
        refine cw_region ?_
        refine nx_op (op_allocArr (n := 1) (len := 63) (c := cI) 101 (List.replicate 63 0) za53 zr53 (by simp) (fun _ => rfl) rfl) rfl ?_
        show Nx _ _ _ _ _ [(22, .ref 101), (105, B ((v_r11.2.isSome || v_r12.2.isSome) || (decide (v_r12.1 > v_a3)))), (16, SL 6 cNode v_r10.1), (0, SL 2 cSample v_a1), (1, I v_a2), (2, I v_a3), (3, I v_a4), (4, I v_a5), (5, I v_a6)] [(101, Arr 53 1 63 cI (List.replicate 63 0))]
        refine nx_nil ?_
        refine Says.ex (S' := [(22, .ref 101), (16, SL 6 cNode v_r10.1), (0, SL 2 cSample v_a1), (1, I v_a2), (2, I v_a3), (3, I v_a4), (4, I v_a5), (5, I v_a6)]) (O' := [(101, Arr 53 1 63 cI (List.replicate 63 0))]) (says_pick [0, 2, 3, 4, 5, 6, 7, 8] [0] rfl rfl) ?_
        refine ex_kx (hK16 _ _ ?_)
        refine cw_seq fun K17 hK17 => ?_
        refine cw_region ?_
        refine nx_op (op_allocArr (n := 1) (len := 63) (c := cI) 102 (List.replicate 63 0) za53 zr53 (by simp) (fun _ => rfl) rfl) rfl ?_
        show Nx _ _ _ _ _ [(23, .ref 102), (22, .ref 101), (16, SL 6 cNode v_r10.1), (0, SL 2 cSample v_a1), (1, I v_a2), (2, I v_a3), (3, I v_a4), (4, I v_a5), (5, I v_a6)] [(102, Arr 53 1 63 cI (List.replicate 63 0)), (101, Arr 53 1 63 cI (List.replicate 63 0))]
        refine nx_nil ?_
        refine ex_kx (hK17 _ _ ?_)
        refine cw_join (fun S O => ∃ (v_t40 : List Int) (v_t41 : List Int), orchlaw2_GrowLearns_j1 N v_r10 v_a4 v_a1 v_a3 v_a2 v_a5 v_a6 v_t40 v_t41 = some r ∧ S = [(0, SL 2 cSample v_a1), (1, I v_a2), (2, I v_a3), (3, I v_a4), (4, I v_a5), (5, I v_a6), (16, SL 6 cNode v_r10.1), (22, .ref 101), (23, .ref 102)] ∧ O = [(101, Arr 53 1 63 cI v_t40), (102, Arr 53 1 63 cI v_t41)]) ?_ (fun K45 hK45 => ?_)
        · rintro S O ⟨v_t40, v_t41, h, rfl, rfl⟩
          unfold orchlaw2_GrowLearns_j1 at h
          refine cw_join (fun S O => orchlaw2_GrowLearns_j2 N v_r10 v_a1 v_a3 v_a2 v_a4 v_a5 v_a6 = some r ∧ S = [(0, SL 2 cSample v_a1), (1, I v_a2), (2, I v_a3), (3, I v_a4), (4, I v_a5), (5, I v_a6), (16, SL 6 cNode v_r10.1)] ∧ O = []) ?_ (fun K76 hK76 => ?_)
          · rintro S O ⟨h, rfl, rfl⟩
            unfold orchlaw2_GrowLearns_j2 at h
            refine cw_seq fun K77 hK77 => ?_
            refine cw_region ?_
            refine nx_o (op_move (.tmp 6 rfl)) rfl ?_
            refine nx_o (op_move (.tmp 1 rfl)) rfl ?_
            obtain ⟨v_r59, hv_r59, h⟩ := bnd h
            refine nx_o (op_call0 (show Fn Go.Proofs.Try.prog 21 [SL 6 cNode v_r10.1, SL 2 cSample v_a1] [] (.tup [I v_r59.1, Er TE v_r59.2]) [] from (f21_fn N v_r10.1 v_a1 _ hv_r59)) c21 (.cons (.tmp 1 rfl) (.cons (.tmp 0 rfl) .nil))) rfl ?_
            refine nx_o (op_move (.tmp 0 rfl)) rfl ?_
            refine nx_o (op_extract (.tmp 0 rfl) rfl) rfl ?_
            refine nx_o (op_extract (.tmp 1 rfl) rfl) rfl ?_
            refine nx_o (op_assign (.tmp 1 rfl)) rfl ?_
            refine nx_o (op_assign (.tmp 1 rfl)) rfl ?_
            refine nx_nil ?_
            refine Says.ex (S' := [(19, Er TE v_r59.2), (30, I v_r59.1), (0, SL 2 cSample v_a1), (1, I v_a2), (2, I v_a3), (3, I v_a4), (4, I v_a5), (5, I v_a6)]) (O' := []) (says_pick [0, 1, 8, 9, 10, 11, 12, 13] [] rfl rfl) ?_
            refine ex_kx (hK77 _ _ ?_)
            refine cw_seq fun K78 hK78 => ?_
            refine cw_seq fun K79 hK79 => ?_
            refine cw_region ?_
            refine nx_o (op_move (.tmp 0 rfl)) rfl ?_
            refine nx_o (op_neqNil (.tmp 0 rfl) u28) rfl ?_
            refine nx_nil ?_
            refine Says.ex (S' := [(199, B v_r59.2.isSome), (30, I v_r59.1), (0, SL 2 cSample v_a1), (1, I v_a2), (2, I v_a3), (3, I v_a4), (4, I v_a5), (5, I v_a6)]) (O' := []) (says_pick [0, 3, 4, 5, 6, 7, 8, 9] [] rfl rfl) ?_
            refine ex_kx (hK79 _ _ ?_)
            refine cw_cond (b := v_r59.2.isSome) (.tmp 0 rfl) (fun hc => ?_) (fun hc => ?_)
            · have h := ite_t hc h
              refine cw_seq fun K80 hK80 => ?_
              refine cw_region ?_
              refine nx_o (op_assign (Can.bool _ _)) rfl ?_
              refine nx_nil ?_
              refine Says.ex (S' := [(12, B false)]) (O' := []) (says_pick [0] [] rfl rfl) ?_
              refine ex_kx (hK80 _ _ ?_)
              refine cw_ret ?_
              refine ex_tr ?_
              cases h
              exact ex_done (.inl rfl) rfl (fun a w G V hs _ hS => res1 rfl (.tmp 0 rfl) a w G V hS)
            · have h := ite_f hc h
              refine cw_skip ?_
              refine ex_kx (hK78 _ _ ?_)
              refine cw_join (fun S O => orchlaw2_GrowLearns_j3 N v_a1 v_a2 v_a4 v_a5 v_a6 = some r ∧ S = [(0, SL 2 cSample v_a1), (1, I v_a2), (3, I v_a4), (4, I v_a5), (5, I v_a6)] ∧ O = []) ?_ (fun K89 hK89 => ?_)
              · rintro S O ⟨h, rfl, rfl⟩
                unfold orchlaw2_GrowLearns_j3 at h
                refine cw_seq fun K90 hK90 => ?_
                refine cw_region ?_
                refine nx_o (op_move (.tmp 0 rfl)) rfl ?_
                refine nx_o (op_move (.tmp 2 rfl)) rfl ?_
                refine nx_o (op_move (.tmp 4 rfl)) rfl ?_
                obtain ⟨v_r62, hv_r62, h⟩ := bnd h
                refine nx_o (op_call0 (show Fn Go.Proofs.Try.prog 22 [SL 2 cSample v_a1, I v_a2, I v_a4] [] (.tup [I v_r62.1, I v_r62.2.1, Er TE v_r62.2.2]) [] from (f22_fn N v_a1 v_a2 v_a4 _ hv_r62)) c22 (.cons (.tmp 2 rfl) (.cons (.tmp 1 rfl) (.cons (.tmp 0 rfl) .nil)))) rfl ?_
                refine nx_o (op_move (.tmp 0 rfl)) rfl ?_
                refine nx_o (op_extract (.tmp 0 rfl) rfl) rfl ?_
                refine nx_o (op_extract (.tmp 1 rfl) rfl) rfl ?_
                refine nx_o (op_extract (.tmp 2 rfl) rfl) rfl ?_
                refine nx_o (op_assign (.tmp 2 rfl)) rfl ?_
                refine nx_o (op_assign (.tmp 2 rfl)) rfl ?_
                refine nx_o (op_assign (.tmp 2 rfl)) rfl ?_
                refine nx_nil ?_
                refine Says.ex (S' := [(19, Er TE v_r62.2.2), (35, I v_r62.2.1), (34, I v_r62.1), (0, SL 2 cSample v_a1), (1, I v_a2), (3, I v_a4), (4, I v_a5), (5, I v_a6)]) (O' := []) (says_pick [0, 1, 2, 11, 12, 13, 14, 15] [] rfl rfl) ?_
                refine ex_kx (hK90 _ _ ?_)
                refine cw_seq fun K91 hK91 => ?_
                refine cw_seq fun K92 hK92 => ?_
                refine cw_region ?_
                refine nx_o (op_move (.tmp 6 rfl)) rfl ?_
                refine nx_o (op_lss (.tmp 0 rfl) (Can.int _ _ _)) rfl ?_
                refine nx_o (op_move (.tmp 0 rfl)) rfl ?_
                refine nx_g (opy_guard (cc := (!(decide (v_a5 < 0)))) (.plain 0 rfl) rfl rfl (fun hg => (op_move (.tmp 9 rfl)))) rfl ?_
                refine nx_g (opy_guard (cc := (!(decide (v_a5 < 0)))) (.plain 1 rfl) rfl rfl (fun hg => (op_move (.tmp 8 rfl)))) rfl ?_
                refine nx_g (opy_guard (cc := (!(decide (v_a5 < 0)))) (.plain 2 rfl) rfl rfl (fun hg => (op_geq (.cd 1 rfl hg) (.cd 0 rfl hg)))) rfl ?_
                refine nx_o (op_or (.tmp 3 rfl) (fun hp => (.cd 0 rfl (not_t hp)))) rfl ?_
                refine nx_nil ?_
                refine Says.ex (S' := [(243, B ((decide (v_a5 < 0)) || (decide (v_a5 ≥ v_a2)))), (19, Er TE v_r62.2.2), (35, I v_r62.2.1), (34, I v_r62.1), (0, SL 2 cSample v_a1), (3, I v_a4), (4, I v_a5), (5, I v_a6)]) (O' := []) (says_pick [0, 7, 8, 9, 10, 12, 13, 14] [] rfl rfl) ?_
                refine ex_kx (hK92 _ _ ?_)
                refine cw_cond (b := ((decide (v_a5 < 0)) || (decide (v_a5 ≥ v_a2)))) (.tmp 0 rfl) (fun hc => ?_) (fun hc => ?_)
                · have h := ite_t hc h
                  refine cw_seq fun K93 hK93 => ?_
                  refine cw_region ?_
                  refine nx_o (op_assign (Can.bool _ _)) rfl ?_
                  refine nx_nil ?_
                  refine Says.ex (S' := [(12, B true)]) (O' := []) (says_pick [0] [] rfl rfl) ?_
                  refine ex_kx (hK93 _ _ ?_)
                  refine cw_ret ?_
                  refine ex_tr ?_
                  cases h
                  exact ex_done (.inl rfl) rfl (fun a w G V hs _ hS => res1 rfl (.tmp 0 rfl) a w G V hS)
                · have h := ite_f hc h
                  refine cw_skip ?_
                  refine ex_kx (hK91 _ _ ?_)
                  refine cw_seq fun K94 hK94 => ?_
                  refine cw_region ?_
                  refine nx_o (op_move (.tmp 4 rfl)) rfl ?_
                  refine nx_o (op_move (.tmp 7 rfl)) rfl ?_
                  refine nx_o (op_move (.tmp 9 rfl)) rfl ?_
                  refine nx_o (op_move (.tmp 8 rfl)) rfl ?_
                  obtain ⟨v_r63, hv_r63, h⟩ := bnd h
                  refine nx_o (op_call0 (show Fn Go.Proofs.Try.prog 23 [SL 2 cSample v_a1, I v_a5, I v_a6, I v_a4] [] (.agg (cA2I v_r63)) [] from (f23_fn N v_a1 v_a5 v_a6 v_a4 _ hv_r63)) c23 (.cons (.tmp 3 rfl) (.cons (.tmp 2 rfl) (.cons (.tmp 1 rfl) (.cons (.tmp 0 rfl) .nil))))) rfl ?_
                  refine nx_op (op_alloc 103 (cA2I (A2I.mk 0 0)) za58 zA2I rfl) rfl ?_
                  show Nx _ _ _ _ _ [(36, .ref 103), (248, .agg (cA2I v_r63)), (247, I v_a4), (246, I v_a6), (245, I v_a5), (244, SL 2 cSample v_a1), (243, B ((decide (v_a5 < 0)) || (decide (v_a5 ≥ v_a2)))), (19, Er TE v_r62.2.2), (35, I v_r62.2.1), (34, I v_r62.1), (0, SL 2 cSample v_a1), (3, I v_a4), (4, I v_a5), (5, I v_a6)] [(103, .var 58 [I 0, I 0])]
                  refine nx_o0 (op_storeVA (its := (cA2I v_r63)) (.tmp 0 rfl) 0 rfl (.agg (.tmp 1 rfl)) rfl s58) ?_
                  show Nx _ _ _ _ _ [(36, .ref 103), (248, .agg (cA2I v_r63)), (247, I v_a4), (246, I v_a6), (245, I v_a5), (244, SL 2 cSample v_a1), (243, B ((decide (v_a5 < 0)) || (decide (v_a5 ≥ v_a2)))), (19, Er TE v_r62.2.2), (35, I v_r62.2.1), (34, I v_r62.1), (0, SL 2 cSample v_a1), (3, I v_a4), (4, I v_a5), (5, I v_a6)] [(103, .var 58 [I v_r63.e0, I v_r63.e1])]
                  refine nx_nil ?_
                  refine Says.ex (S' := [(36, .ref 103), (19, Er TE v_r62.2.2), (35, I v_r62.2.1), (34, I v_r62.1), (0, SL 2 cSample v_a1), (3, I v_a4)]) (O' := [(103, .var 58 [I v_r63.e0, I v_r63.e1])]) (says_pick [0, 7, 8, 9, 10, 11] [0] rfl rfl) ?_
                  refine ex_kx (hK94 _ _ ?_)
                  refine cw_seq fun K95 hK95 => ?_
                  refine cw_seq fun K96 hK96 => ?_
                  refine cw_region ?_
                  refine nx_o (op_move (.tmp 1 rfl)) rfl ?_
                  refine nx_o (op_neqNil (.tmp 0 rfl) u28) rfl ?_
                  refine nx_nil ?_
                  refine Says.ex (S' := [(250, B v_r62.2.2.isSome), (36, .ref 103), (35, I v_r62.2.1), (34, I v_r62.1), (0, SL 2 cSample v_a1), (3, I v_a4)]) (O' := [(103, .var 58 [I v_r63.e0, I v_r63.e1])]) (says_pick [0, 2, 4, 5, 6, 7] [0] rfl rfl) ?_
                  refine ex_kx (hK96 _ _ ?_)
                  refine cw_cond (b := v_r62.2.2.isSome) (.tmp 0 rfl) (fun hc => ?_) (fun hc => ?_)
                  · have h := ite_t hc h
                    refine cw_seq fun K97 hK97 => ?_
                    refine cw_region ?_
                    refine nx_o (op_move (.tmp 4 rfl)) rfl ?_
                    obtain ⟨v_r64, hv_r64, h⟩ := bnd h
                    refine nx_o (op_call0 (show Fn Go.Proofs.Try.prog 23 [SL 2 cSample v_a1, I 0, I (-2000000), I 0] [] (.agg (cA2I v_r64)) [] from (f23_fn N v_a1 0 (-2000000) 0 _ hv_r64)) c23 (.cons (.tmp 0 rfl) (.cons (Can.int _ _ _) (.cons (Can.int _ _ _) (.cons (Can.int _ _ _) .nil))))) rfl ?_
                    refine nx_op (op_alloc 104 (cA2I (A2I.mk 0 0)) za58 zA2I rfl) rfl ?_
                    show Nx _ _ _ _ _ [(37, .ref 104), (252, .agg (cA2I v_r64)), (251, SL 2 cSample v_a1), (250, B v_r62.2.2.isSome), (36, .ref 103), (35, I v_r62.2.1), (34, I v_r62.1), (0, SL 2 cSample v_a1), (3, I v_a4)] [(104, .var 58 [I 0, I 0]), (103, .var 58 [I v_r63.e0, I v_r63.e1])]
                    refine nx_o0 (op_storeVA (its := (cA2I v_r64)) (.tmp 0 rfl) 0 rfl (.agg (.tmp 1 rfl)) rfl s58) ?_
                    show Nx _ _ _ _ _ [(37, .ref 104), (252, .agg (cA2I v_r64)), (251, SL 2 cSample v_a1), (250, B v_r62.2.2.isSome), (36, .ref 103), (35, I v_r62.2.1), (34, I v_r62.1), (0, SL 2 cSample v_a1), (3, I v_a4)] [(104, .var 58 [I v_r64.e0, I v_r64.e1]), (103, .var 58 [I v_r63.e0, I v_r63.e1])]
                    refine nx_nil ?_
                    refine Says.ex (S' := [(37, .ref 104), (36, .ref 103)]) (O' := [(104, .var 58 [I v_r64.e0, I v_r64.e1]), (103, .var 58 [I v_r63.e0, I v_r63.e1])]) (says_pick [0, 4] [0, 1] rfl rfl) ?_
                    refine ex_kx (hK97 _ _ ?_)
                    refine cw_seq fun K98 hK98 => ?_
                    refine cw_region ?_
                    refine nx_o (op_indexVar (.tmp 1 rfl) 1 rfl (Can.int _ _ _) u58 s3 rfl rfl) rfl ?_
                    refine nx_o (op_loadV (.tmp 0 rfl) 1 rfl rfl a3) rfl ?_
                    refine nx_o (op_eql (.tmp 0 rfl) (Can.int _ _ _)) rfl ?_
                    refine nx_o (op_move (.tmp 0 rfl)) rfl ?_
                    refine nx_g (opy_guard (cc := (!(v_r63.e1 == 0))) (.plain 0 rfl) rfl rfl (fun hg => (op_indexVar (.tmp 5 rfl) 1 rfl (Can.int _ _ _) u58 s3 rfl rfl))) rfl ?_
                    refine nx_g (opy_guard (cc := (!(v_r63.e1 == 0))) (.plain 1 rfl) rfl rfl (fun hg => (op_loadV (.cd 0 rfl hg) 1 rfl rfl a3))) rfl ?_
                    refine nx_g (opy_guard (cc := (!(v_r63.e1 == 0))) (.plain 2 rfl) rfl rfl (fun hg => (op_indexVar (.tmp 6 rfl) 0 rfl (Can.int _ _ _) u58 s3 rfl rfl))) rfl ?_
                    refine nx_g (opy_guard (cc := (!(v_r63.e1 == 0))) (.plain 3 rfl) rfl rfl (fun hg => (op_loadV (.cd 0 rfl hg) 0 rfl rfl a3))) rfl ?_
                    refine nx_g (opy_guard (cc := (!(v_r63.e1 == 0))) (.plain 4 rfl) rfl rfl (fun hg => (op_mul (.cd 2 rfl hg) (.cd 0 rfl hg)))) rfl ?_
                    refine nx_g (opy_guard (cc := (!(v_r63.e1 == 0))) (.plain 5 rfl) rfl rfl (fun hg => (op_indexVar (.tmp 9 rfl) 0 rfl (Can.int _ _ _) u58 s3 rfl rfl))) rfl ?_
                    refine nx_g (opy_guard (cc := (!(v_r63.e1 == 0))) (.plain 6 rfl) rfl rfl (fun hg => (op_loadV (.cd 0 rfl hg) 0 rfl rfl a3))) rfl ?_
                    refine nx_g (opy_guard (cc := (!(v_r63.e1 == 0))) (.plain 7 rfl) rfl rfl (fun hg => (op_indexVar (.tmp 12 rfl) 1 rfl (Can.int _ _ _) u58 s3 rfl rfl))) rfl ?_
                    refine nx_g (opy_guard (cc := (!(v_r63.e1 == 0))) (.plain 8 rfl) rfl rfl (fun hg => (op_loadV (.cd 0 rfl hg) 1 rfl rfl a3))) rfl ?_
                    refine nx_g (opy_guard (cc := (!(v_r63.e1 == 0))) (.plain 9 rfl) rfl rfl (fun hg => (op_mul (.cd 2 rfl hg) (.cd 0 rfl hg)))) rfl ?_
                    refine nx_g (opy_guard (cc := (!(v_r63.e1 == 0))) (.plain 10 rfl) rfl rfl (fun hg => (op_leq (.cd 5 rfl hg) (.cd 0 rfl hg)))) rfl ?_
                    refine nx_o (op_or (.tmp 11 rfl) (fun hp => (.cd 0 rfl (not_t hp)))) rfl ?_
                    refine nx_o (op_assign (.tmp 0 rfl)) rfl ?_
                    refine nx_nil ?_
                    refine Says.ex (S' := [(12, B ((v_r63.e1 == 0) || (decide ((w64 (v_r63.e0 * v_r64.e1)) ≤ (w64 (v_r64.e0 * v_r63.e1))))))]) (O' := []) (says_pick [0] [] rfl rfl) ?_
                    refine ex_kx (hK98 _ _ ?_)
                    refine cw_ret ?_
                    refine ex_tr ?_
                    cases h
                    exact ex_done (.inl rfl) rfl (fun a w G V hs _ hS => res1 rfl (.tmp 0 rfl) a w G V hS)
                  · have h := ite_f hc h
                    refine cw_skip ?_
                    refine ex_kx (hK95 _ _ ?_)
                    refine cw_seq fun K99 hK99 => ?_
                    refine cw_region ?_
                    refine nx_o (op_move (.tmp 4 rfl)) rfl ?_
                    refine nx_o (op_move (.tmp 4 rfl)) rfl ?_
                    refine nx_o (op_move (.tmp 4 rfl)) rfl ?_
                    refine nx_o (op_move (.tmp 8 rfl)) rfl ?_
                    obtain ⟨v_r65, hv_r65, h⟩ := bnd h
                    refine nx_o (op_call0 (show Fn Go.Proofs.Try.prog 23 [SL 2 cSample v_a1, I v_r62.1, I v_r62.2.1, I v_a4] [] (.agg (cA2I v_r65)) [] from (f23_fn N v_a1 v_r62.1 v_r62.2.1 v_a4 _ hv_r65)) c23 (.cons (.tmp 3 rfl) (.cons (.tmp 2 rfl) (.cons (.tmp 1 rfl) (.cons (.tmp 0 rfl) .nil))))) rfl ?_
                    refine nx_op (op_alloc 105 (cA2I (A2I.mk 0 0)) za58 zA2I rfl) rfl ?_
                    show Nx _ _ _ _ _ [(38, .ref 105), (273, .agg (cA2I v_r65)), (272, I v_a4), (271, I v_r62.2.1), (270, I v_r62.1), (269, SL 2 cSample v_a1), (250, B v_r62.2.2.isSome), (36, .ref 103), (35, I v_r62.2.1), (34, I v_r62.1), (0, SL 2 cSample v_a1), (3, I v_a4)] [(105, .var 58 [I 0, I 0]), (103, .var 58 [I v_r63.e0, I v_r63.e1])]
                    refine nx_o0 (op_storeVA (its := (cA2I v_r65)) (.tmp 0 rfl) 0 rfl (.agg (.tmp 1 rfl)) rfl s58) ?_
                    show Nx _ _ _ _ _ [(38, .ref 105), (273, .agg (cA2I v_r65)), (272, I v_a4), (271, I v_r62.2.1), (270, I v_r62.1), (269, SL 2 cSample v_a1), (250, B v_r62.2.2.isSome), (36, .ref 103), (35, I v_r62.2.1), (34, I v_r62.1), (0, SL 2 cSample v_a1), (3, I v_a4)] [(105, .var 58 [I v_r65.e0, I v_r65.e1]), (103, .var 58 [I v_r63.e0, I v_r63.e1])]
                    refine nx_nil ?_
                    refine Says.ex (S' := [(38, .ref 105), (36, .ref 103)]) (O' := [(105, .var 58 [I v_r65.e0, I v_r65.e1]), (103, .var 58 [I v_r63.e0, I v_r63.e1])]) (says_pick [0, 7] [0, 1] rfl rfl) ?_
                    refine ex_kx (hK99 _ _ ?_)
                    refine cw_seq fun K100 hK100 => ?_
                    refine cw_region ?_
                    refine nx_o (op_indexVar (.tmp 0 rfl) 0 rfl (Can.int _ _ _) u58 s3 rfl rfl) rfl ?_
                    refine nx_o (op_loadV (.tmp 0 rfl) 0 rfl rfl a3) rfl ?_
                    refine nx_o (op_gtr (.tmp 0 rfl) (Can.int _ _ _)) rfl ?_
                    refine nx_o (op_move (.tmp 0 rfl)) rfl ?_
                    refine nx_g (opy_guard (cc := (decide (v_r65.e1 > 0))) (.plain 0 rfl) rfl rfl (fun hg => (op_indexVar (.tmp 5 rfl) 1 rfl (Can.int _ _ _) u58 s3 rfl rfl))) rfl ?_
                    refine nx_g (opy_guard (cc := (decide (v_r65.e1 > 0))) (.plain 1 rfl) rfl rfl (fun hg => (op_loadV (.cd 0 rfl hg) 1 rfl rfl a3))) rfl ?_
                    refine nx_g (opy_guard (cc := (decide (v_r65.e1 > 0))) (.plain 2 rfl) rfl rfl (fun hg => (op_indexVar (.tmp 6 rfl) 0 rfl (Can.int _ _ _) u58 s3 rfl rfl))) rfl ?_
                    refine nx_g (opy_guard (cc := (decide (v_r65.e1 > 0))) (.plain 3 rfl) rfl rfl (fun hg => (op_loadV (.cd 0 rfl hg) 0 rfl rfl a3))) rfl ?_
                    refine nx_g (opy_guard (cc := (decide (v_r65.e1 > 0))) (.plain 4 rfl) rfl rfl (fun hg => (op_mul (.cd 2 rfl hg) (.cd 0 rfl hg)))) rfl ?_
                    refine nx_g (opy_guard (cc := (decide (v_r65.e1 > 0))) (.plain 5 rfl) rfl rfl (fun hg => (op_indexVar (.tmp 9 rfl) 0 rfl (Can.int _ _ _) u58 s3 rfl rfl))) rfl ?_
                    refine nx_g (opy_guard (cc := (decide (v_r65.e1 > 0))) (.plain 6 rfl) rfl rfl (fun hg => (op_loadV (.cd 0 rfl hg) 0 rfl rfl a3))) rfl ?_
                    refine nx_g (opy_guard (cc := (decide (v_r65.e1 > 0))) (.plain 7 rfl) rfl rfl (fun hg => (op_indexVar (.tmp 12 rfl) 1 rfl (Can.int _ _ _) u58 s3 rfl rfl))) rfl ?_
                    refine nx_g (opy_guard (cc := (decide (v_r65.e1 > 0))) (.plain 8 rfl) rfl rfl (fun hg => (op_loadV (.cd 0 rfl hg) 1 rfl rfl a3))) rfl ?_
                    refine nx_g (opy_guard (cc := (decide (v_r65.e1 > 0))) (.plain 9 rfl) rfl rfl (fun hg => (op_mul (.cd 2 rfl hg) (.cd 0 rfl hg)))) rfl ?_
                    refine nx_g (opy_guard (cc := (decide (v_r65.e1 > 0))) (.plain 10 rfl) rfl rfl (fun hg => (op_leq (.cd 5 rfl hg) (.cd 0 rfl hg)))) rfl ?_
                    refine nx_o (op_and (.tmp 11 rfl) (fun hp => (.cd 0 rfl hp))) rfl ?_
                    refine nx_o (op_assign (.tmp 0 rfl)) rfl ?_
                    refine nx_nil ?_
                    refine Says.ex (S' := [(12, B ((decide (v_r65.e1 > 0)) && (decide ((w64 (v_r63.e0 * v_r65.e1)) ≤ (w64 (v_r65.e0 * v_r63.e1))))))]) (O' := []) (says_pick [0] [] rfl rfl) ?_
                    refine ex_kx (hK100 _ _ ?_)
                    refine cw_ret ?_
                    cases h
                    exact ex_done (.inl rfl) rfl (fun a w G V hs _ hS => res1 rfl (.tmp 0 rfl) a w G V hS)
              ·
                refine cw_seq fun K101 hK101 => ?_
                refine cw_region ?_
                refine nx_o (op_move (.tmp 4 rfl)) rfl ?_
                refine nx_o (op_gtr (.tmp 0 rfl) (Can.int _ _ _)) rfl ?_
                refine nx_nil ?_
                refine Says.ex (S' := [(201, B (decide (v_a3 > 0))), (30, I v_r59.1), (0, SL 2 cSample v_a1), (1, I v_a2), (2, I v_a3), (3, I v_a4), (4, I v_a5), (5, I v_a6)]) (O' := []) (says_pick [0, 3, 4, 5, 6, 7, 8, 9] [] rfl rfl) ?_
                refine ex_kx (hK101 _ _ ?_)
                refine cw_cond (b := (decide (v_a3 > 0))) (.tmp 0 rfl) (fun hc => ?_) (fun hc => ?_)
                · have h := ite_t hc h
                  refine cw_seq fun K102 hK102 => ?_
                  refine cw_region ?_
                  refine nx_o (op_move (.tmp 2 rfl)) rfl ?_
                  refine nx_o (op_move (.tmp 4 rfl)) rfl ?_
                  refine nx_o (op_move (.tmp 6 rfl)) rfl ?_
                  refine nx_o (op_sub (.tmp 0 rfl) (Can.int _ _ _)) rfl ?_
                  refine nx_o (op_move (.tmp 9 rfl)) rfl ?_
                  obtain ⟨v_r66, hv_r66, h⟩ := bnd h
                  refine nx_o (op_call0 (show Fn Go.Proofs.Try.prog 10 [SL 2 cSample v_a1, I v_a2, I (w64 (v_a3 - 1)), I v_a4] [] (.tup [SL 6 cNode v_r66.1, Er TE v_r66.2]) [] from (f10_fn N v_a1 v_a2 (w64 (v_a3 - 1)) v_a4 _ hv_r66)) c10 (.cons (.tmp 4 rfl) (.cons (.tmp 3 rfl) (.cons (.tmp 1 rfl) (.cons (.tmp 0 rfl) .nil))))) rfl ?_
                  refine nx_o (op_move (.tmp 0 rfl)) rfl ?_
                  refine nx_o (op_extract (.tmp 0 rfl) rfl) rfl ?_
                  refine nx_o (op_extract (.tmp 1 rfl) rfl) rfl ?_
                  refine nx_o (op_assign (.tmp 1 rfl)) rfl ?_
                  refine nx_o (op_assign (.tmp 1 rfl)) rfl ?_
                  refine nx_nil ?_
                  refine Says.ex (S' := [(32, Er TE v_r66.2), (31, SL 6 cNode v_r66.1), (30, I v_r59.1), (0, SL 2 cSample v_a1), (1, I v_a2), (3, I v_a4), (4, I v_a5), (5, I v_a6)]) (O' := []) (says_pick [0, 1, 12, 13, 14, 16, 17, 18] [] rfl rfl) ?_
                  refine ex_kx (hK102 _ _ ?_)
                  refine cw_seq fun K103 hK103 => ?_
                  refine cw_seq fun K104 hK104 => ?_
                  refine cw_region ?_
                  refine nx_o (op_move (.tmp 0 rfl)) rfl ?_
                  refine nx_o (op_neqNil (.tmp 0 rfl) u28) rfl ?_
                  refine nx_nil ?_
                  refine Says.ex (S' := [(212, B v_r66.2.isSome), (31, SL 6 cNode v_r66.1), (30, I v_r59.1), (0, SL 2 cSample v_a1), (1, I v_a2), (3, I v_a4), (4, I v_a5), (5, I v_a6)]) (O' := []) (says_pick [0, 3, 4, 5, 6, 7, 8, 9] [] rfl rfl) ?_
                  refine ex_kx (hK104 _ _ ?_)
                  refine cw_cond (b := v_r66.2.isSome) (.tmp 0 rfl) (fun hc => ?_) (fun hc => ?_)
                  · have h := ite_t hc h
                    refine cw_seq fun K105 hK105 => ?_
                    refine cw_region ?_
                    refine nx_o (op_assign (Can.bool _ _)) rfl ?_
                    refine nx_nil ?_
                    refine Says.ex (S' := [(12, B false)]) (O' := []) (says_pick [0] [] rfl rfl) ?_
                    refine ex_kx (hK105 _ _ ?_)
                    refine cw_ret ?_
                    refine ex_tr ?_
                    refine ex_tr ?_
                    cases h
                    exact ex_done (.inl rfl) rfl (fun a w G V hs _ hS => res1 rfl (.tmp 0 rfl) a w G V hS)
                  · have h := ite_f hc h
                    refine cw_skip ?_
                    refine ex_kx (hK103 _ _ ?_)
                    refine cw_seq fun K106 hK106 => ?_
                    refine cw_region ?_
                    refine nx_o (op_move (.tmp 1 rfl)) rfl ?_
                    refine nx_o (op_move (.tmp 4 rfl)) rfl ?_
                    obtain ⟨v_r67, hv_r67, h⟩ := bnd h
                    refine nx_o (op_call0 (show Fn Go.Proofs.Try.prog 21 [SL 6 cNode v_r66.1, SL 2 cSample v_a1] [] (.tup [I v_r67.1, Er TE v_r67.2]) [] from (f21_fn N v_r66.1 v_a1 _ hv_r67)) c21 (.cons (.tmp 1 rfl) (.cons (.tmp 0 rfl) .nil))) rfl ?_
                    refine nx_o (op_move (.tmp 0 rfl)) rfl ?_
                    refine nx_o (op_extract (.tmp 0 rfl) rfl) rfl ?_
                    refine nx_o (op_extract (.tmp 1 rfl) rfl) rfl ?_
                    refine nx_o (op_assign (.tmp 1 rfl)) rfl ?_
                    refine nx_o (op_assign (.tmp 1 rfl)) rfl ?_
                    refine nx_nil ?_
                    refine Says.ex (S' := [(32, Er TE v_r67.2), (33, I v_r67.1), (30, I v_r59.1), (0, SL 2 cSample v_a1), (1, I v_a2), (3, I v_a4), (4, I v_a5), (5, I v_a6)]) (O' := []) (says_pick [0, 1, 10, 11, 12, 13, 14, 15] [] rfl rfl) ?_
                    refine ex_kx (hK106 _ _ ?_)
                    refine cw_seq fun K107 hK107 => ?_
                    refine cw_region ?_
                    refine nx_o (op_move (.tmp 0 rfl)) rfl ?_
                    refine nx_o (op_neqNil (.tmp 0 rfl) u28) rfl ?_
                    refine nx_o (op_move (.tmp 0 rfl)) rfl ?_
                    refine nx_g (opy_guard (cc := (!v_r67.2.isSome)) (.plain 0 rfl) rfl rfl (fun hg => (op_move (.tmp 5 rfl)))) rfl ?_
                    refine nx_g (opy_guard (cc := (!v_r67.2.isSome)) (.plain 1 rfl) rfl rfl (fun hg => (op_move (.tmp 5 rfl)))) rfl ?_
                    refine nx_g (opy_guard (cc := (!v_r67.2.isSome)) (.plain 2 rfl) rfl rfl (fun hg => (op_move (.tmp 8 rfl)))) rfl ?_
                    refine nx_g (opy_guard (cc := (!v_r67.2.isSome)) (.plain 3 rfl) rfl rfl (fun hg => (op_len (.cd 0 rfl hg) u22))) rfl ?_
                    refine nx_g (opy_guard (cc := (!v_r67.2.isSome)) (.plain 4 rfl) rfl rfl (fun hg => (op_add (.cd 2 rfl hg) (.cd 0 rfl hg)))) rfl ?_
                    refine nx_g (opy_guard (cc := (!v_r67.2.isSome)) (.plain 5 rfl) rfl rfl (fun hg => (op_gtr (.cd 4 rfl hg) (.cd 0 rfl hg)))) rfl ?_
                    refine nx_o (op_or (.tmp 6 rfl) (fun hp => (.cd 0 rfl (not_t hp)))) rfl ?_
                    refine nx_nil ?_
                    refine Says.ex (S' := [(228, B (v_r67.2.isSome || (decide (v_r59.1 > (w64 (v_r67.1 + (v_a1.length : Int))))))), (0, SL 2 cSample v_a1), (1, I v_a2), (3, I v_a4), (4, I v_a5), (5, I v_a6)]) (O' := []) (says_pick [0, 13, 14, 15, 16, 17] [] rfl rfl) ?_
                    refine ex_kx (hK107 _ _ ?_)
                    refine cw_cond (b := (v_r67.2.isSome || (decide (v_r59.1 > (w64 (v_r67.1 + (v_a1.length : Int))))))) (.tmp 0 rfl) (fun hc => ?_) (fun hc => ?_)
                    · have h := ite_t hc h
                      refine cw_seq fun K108 hK108 => ?_
                      refine cw_region ?_
                      refine nx_o (op_assign (Can.bool _ _)) rfl ?_
                      refine nx_nil ?_
                      refine Says.ex (S' := [(12, B false)]) (O' := []) (says_pick [0] [] rfl rfl) ?_
                      refine ex_kx (hK108 _ _ ?_)
                      refine cw_ret ?_
                      refine ex_tr ?_
                      cases h
                      exact ex_done (.inl rfl) rfl (fun a w G V hs _ hS => res1 rfl (.tmp 0 rfl) a w G V hS)
                    · have h := ite_f hc h
                      refine cw_skip ?_
                      refine ex_kx ?_
                      refine Says.kx (S' := [(0, SL 2 cSample v_a1), (1, I v_a2), (3, I v_a4), (4, I v_a5), (5, I v_a6)]) (O' := []) (says_pick [1, 2, 3, 4, 5] [] rfl rfl) ?_
                      exact hK89 _ _ ⟨h, rfl, rfl⟩
                · have h := ite_f hc h
                  refine cw_skip ?_
                  refine ex_kx ?_
                  refine Says.kx (S' := [(0, SL 2 cSample v_a1), (1, I v_a2), (3, I v_a4), (4, I v_a5), (5, I v_a6)]) (O' := []) (says_pick [2, 3, 5, 6, 7] [] rfl rfl) ?_
                  exact hK89 _ _ ⟨h, rfl, rfl⟩
          ·
            refine cw_seq fun K109 hK109 => ?_
            refine cw_region ?_
            refine nx_o (op_assign (Can.int _ _ _)) rfl ?_
            refine nx_nil ?_
            refine ex_kx (hK109 _ _ ?_)
            refine cw_block ?_
            refine Says.cw (S' := [(0, SL 2 cSample v_a1), (1, I v_a2), (2, I v_a3), (3, I v_a4), (4, I v_a5), (5, I v_a6), (16, SL 6 cNode v_r10.1), (22, .ref 101), (23, .ref 102), (27, I 0)]) (O' := [(101, Arr 53 1 63 cI v_t40), (102, Arr 53 1 63 cI v_t41)]) (says_pick [1, 2, 3, 4, 5, 6, 7, 8, 9, 0] [0, 1] rfl rfl) ?_
            refine cw_loopJ (fun n S O => ∃ (v_t79 : Int), orchlaw2_GrowLearns_l1 N v_r10 v_t40 v_a4 v_t41 v_a1 v_a3 v_a2 v_a5 v_a6 n v_t79 = some r ∧ S = [(0, SL 2 cSample v_a1), (1, I v_a2), (2, I v_a3), (3, I v_a4), (4, I v_a5), (5, I v_a6), (16, SL 6 cNode v_r10.1), (22, .ref 101), (23, .ref 102), (27, I v_t79)] ∧ O = [(101, Arr 53 1 63 cI v_t40), (102, Arr 53 1 63 cI v_t41)]) ?_ ?_ N ⟨0, h, rfl, rfl⟩
            · rintro S O ⟨v_t79, h, -, -⟩
              simp [orchlaw2_GrowLearns_l1] at h
            · rintro n_1 S O ⟨v_t79, h, rfl, rfl⟩ K128 hK128
              rw [orchlaw2_GrowLearns_l1] at h
              refine cw_seq fun K129 hK129 => ?_
              refine cw_seq fun K130 hK130 => ?_
              refine cw_region ?_
              refine nx_o (op_move (.tmp 9 rfl)) rfl ?_
              refine nx_o (op_move (.tmp 7 rfl)) rfl ?_
              refine nx_o (op_len (.tmp 0 rfl) u26) rfl ?_
              refine nx_o (op_lss (.tmp 2 rfl) (.tmp 0 rfl)) rfl ?_
              refine nx_nil ?_
              refine Says.ex (S' := [(144, B (decide (v_t79 < (v_r10.1.length : Int)))), (0, SL 2 cSample v_a1), (1, I v_a2), (2, I v_a3), (3, I v_a4), (4, I v_a5), (5, I v_a6), (16, SL 6 cNode v_r10.1), (22, .ref 101), (23, .ref 102), (27, I v_t79)]) (O' := [(101, Arr 53 1 63 cI v_t40), (102, Arr 53 1 63 cI v_t41)]) (says_pick [0, 4, 5, 6, 7, 8, 9, 10, 11, 12, 13] [0, 1] rfl rfl) ?_
              refine ex_kx (hK130 _ _ ?_)
              refine cw_cond (b := (decide (v_t79 < (v_r10.1.length : Int)))) (.tmp 0 rfl) (fun hc => ?_) (fun hc => ?_)
              · have h := ite_t hc h
                refine cw_skip ?_
                refine ex_kx (hK129 _ _ ?_)
                refine cw_seq fun K131 hK131 => ?_
                refine cw_block ?_
                refine cw_seq fun K132 hK132 => ?_
                refine cw_seq fun K133 hK133 => ?_
                refine cw_region ?_
                refine nx_o (op_move (.tmp 7 rfl)) rfl ?_
                refine nx_o (op_move (.tmp 11 rfl)) rfl ?_
                obtain ⟨v_y80, hv_y80, h⟩ := bnd h
                refine nx_o (op_indexX hv_y80 (.tmp 1 rfl) (.tmp 0 rfl) u26 s32) rfl ?_
                refine nx_o (op_field (.tmp 0 rfl) o32_0) rfl ?_
                refine nx_o (op_load1 (.tmp 0 rfl) a3) rfl ?_
                refine nx_o (op_neq (.tmp 0 rfl) (Can.int _ _ _)) rfl ?_
                refine nx_nil ?_
                refine Says.ex (S' := [(152, B (v_y80.feature != (-1))), (0, SL 2 cSample v_a1), (1, I v_a2), (2, I v_a3), (3, I v_a4), (4, I v_a5), (5, I v_a6), (16, SL 6 cNode v_r10.1), (22, .ref 101), (23, .ref 102), (27, I v_t79)]) (O' := [(101, Arr 53 1 63 cI v_t40), (102, Arr 53 1 63 cI v_t41)]) (says_pick [0, 7, 8, 9, 10, 11, 12, 13, 14, 15, 16] [0, 1] rfl rfl) ?_
                refine ex_kx (hK133 _ _ ?_)
                refine cw_cond (b := (v_y80.feature != (-1))) (.tmp 0 rfl) (fun hc => ?_) (fun hc => ?_)
                · have h := ite_t hc h
                  refine cw_exit ?_
                  refine ex_te ?_
                  refine ex_be ?_
                  refine ex_kx (hK131 _ _ ?_)
                  refine cw_region ?_
                  refine nx_o (op_move (.tmp 10 rfl)) rfl ?_
                  refine nx_o (op_add (.tmp 0 rfl) (Can.int _ _ _)) rfl ?_
                  refine nx_k [0, 1, 2, 3, 4, 5, 6, 7, 8, 9, 10, 11] (op_assign (.tmp 0 rfl)) rfl rfl ?_
                  show Nx _ _ _ _ _ [(27, I (w64 (v_t79 + 1))), (146, I (w64 (v_t79 + 1))), (145, I v_t79), (152, B (v_y80.feature != (-1))), (0, SL 2 cSample v_a1), (1, I v_a2), (2, I v_a3), (3, I v_a4), (4, I v_a5), (5, I v_a6), (16, SL 6 cNode v_r10.1), (22, .ref 101), (23, .ref 102)] [(101, Arr 53 1 63 cI v_t40), (102, Arr 53 1 63 cI v_t41)]
                  refine nx_nil ?_
                  refine Says.ex (S' := [(27, I (w64 (v_t79 + 1))), (0, SL 2 cSample v_a1), (1, I v_a2), (2, I v_a3), (3, I v_a4), (4, I v_a5), (5, I v_a6), (16, SL 6 cNode v_r10.1), (22, .ref 101), (23, .ref 102)]) (O' := [(101, Arr 53 1 63 cI v_t40), (102, Arr 53 1 63 cI v_t41)]) (says_pick [0, 4, 5, 6, 7, 8, 9, 10, 11, 12] [0, 1] rfl rfl) ?_
                  refine ex_kx ?_
                  refine Says.kx (S' := [(0, SL 2 cSample v_a1), (1, I v_a2), (2, I v_a3), (3, I v_a4), (4, I v_a5), (5, I v_a6), (16, SL 6 cNode v_r10.1), (22, .ref 101), (23, .ref 102), (27, I (w64 (v_t79 + 1)))]) (O' := [(101, Arr 53 1 63 cI v_t40), (102, Arr 53 1 63 cI v_t41)]) (says_pick [1, 2, 3, 4, 5, 6, 7, 8, 9, 0] [0, 1] rfl rfl) ?_
                  exact hK128 _ _ ⟨w64 (v_t79 + 1), h, rfl, rfl⟩
                · have h := ite_f hc h
                  refine cw_skip ?_
                  refine ex_kx (hK132 _ _ ?_)
                  refine cw_seq fun K134 hK134 => ?_
                  refine cw_region ?_
                  refine nx_o (op_move (.tmp 10 rfl)) rfl ?_
                  obtain ⟨v_y81, hv_y81, h⟩ := bnd h
                  refine nx_o (op_indexArr hv_y81 (.tmp 9 rfl) 0 rfl (.tmp 0 rfl) u53 s3) rfl ?_
                  refine nx_o (op_loadArr (n := 1) (c := cI) (l := v_t40) (.tmp 0 rfl) 0 rfl _ 0 rfl (ix_spec hv_y81).2 rfl a3) rfl ?_
                  refine nx_o (op_assign (.tmp 0 rfl)) rfl ?_
                  refine nx_nil ?_
                  refine Says.ex (S' := [(28, I v_y81), (0, SL 2 cSample v_a1), (1, I v_a2), (2, I v_a3), (3, I v_a4), (4, I v_a5), (5, I v_a6), (16, SL 6 cNode v_r10.1), (22, .ref 101), (23, .ref 102), (27, I v_t79)]) (O' := [(101, Arr 53 1 63 cI v_t40), (102, Arr 53 1 63 cI v_t41)]) (says_pick [0, 5, 6, 7, 8, 9, 10, 11, 12, 13, 14] [0, 1] rfl rfl) ?_
                  refine ex_kx (hK134 _ _ ?_)
                  refine cw_seq fun K135 hK135 => ?_
                  refine cw_region ?_
                  refine nx_o (op_move (.tmp 7 rfl)) rfl ?_
                  refine nx_o (op_move (.tmp 11 rfl)) rfl ?_
                  obtain ⟨v_y82, hv_y82, h⟩ := bnd h
                  refine nx_o (op_indexX hv_y82 (.tmp 1 rfl) (.tmp 0 rfl) u26 s32) rfl ?_
                  refine nx_o (op_field (.tmp 0 rfl) o32_5) rfl ?_
                  refine nx_o (op_load1 (.tmp 0 rfl) a3) rfl ?_
                  refine nx_o (op_assign (.tmp 0 rfl)) rfl ?_
                  refine nx_nil ?_
                  refine Says.ex (S' := [(29, I v_y82.value), (28, I v_y81), (0, SL 2 cSample v_a1), (1, I v_a2), (2, I v_a3), (3, I v_a4), (4, I v_a5), (5, I v_a6), (16, SL 6 cNode v_r10.1), (22, .ref 101), (23, .ref 102), (27, I v_t79)]) (O' := [(101, Arr 53 1 63 cI v_t40), (102, Arr 53 1 63 cI v_t41)]) (says_pick [0, 6, 7, 8, 9, 10, 11, 12, 13, 14, 15, 16] [0, 1] rfl rfl) ?_
                  refine ex_kx (hK135 _ _ ?_)
                  refine cw_seq fun K136 hK136 => ?_
                  refine cw_region ?_
                  refine nx_o (op_move (.tmp 1 rfl)) rfl ?_
                  refine nx_o (op_eql (.tmp 0 rfl) (Can.int _ _ _)) rfl ?_
                  refine nx_o (op_move (.tmp 0 rfl)) rfl ?_
                  refine nx_g (opy_guard (cc := (!(v_y81 == 0))) (.plain 0 rfl) rfl rfl (fun hg => (op_move (.tmp 11 rfl)))) rfl ?_
                  refine nx_g (opy_guard (cc := (!(v_y81 == 0))) (.plain 1 rfl) rfl rfl (fun hg => (op_len (.cd 0 rfl hg) u26))) rfl ?_
                  refine nx_g (opy_guard (cc := (!(v_y81 == 0))) (.plain 2 rfl) rfl rfl (fun hg => (op_gtr (.cd 0 rfl hg) (Can.int _ _ _)))) rfl ?_
                  refine nx_g (opy_guard (cc := (!(v_y81 == 0))) (.plain 3 rfl) rfl rfl (fun hg => (op_move (.cd 0 rfl hg)))) rfl ?_
                  refine nx_g (opy_guard (cc := ((!(v_y81 == 0)) && (decide ((v_r10.1.length : Int) > 1)))) (.cond 0 rfl) rfl rfl (fun hg => (op_move (.tmp 8 rfl)))) rfl ?_
                  refine nx_g (opy_guard (cc := ((!(v_y81 == 0)) && (decide ((v_r10.1.length : Int) > 1)))) (.cond 1 rfl) rfl rfl (fun hg => (op_move (.tmp 13 rfl)))) rfl ?_
                  refine nx_g (opy_guard (cc := ((!(v_y81 == 0)) && (decide ((v_r10.1.length : Int) > 1)))) (.cond 2 rfl) rfl rfl (fun hg => (op_lss (.cd 1 rfl hg) (.cd 0 rfl hg)))) rfl ?_
                  refine nx_g (opy_guard (cc := (!(v_y81 == 0))) (.plain 7 rfl) rfl rfl (fun hg => (op_and (.cd 3 rfl hg) (fun hp => (.cd 0 rfl (and_t hg hp)))))) rfl ?_
                  refine nx_o (op_or (.tmp 8 rfl) (fun hp => (.cd 0 rfl (not_t hp)))) rfl ?_
                  refine nx_o (op_move (.tmp 0 rfl)) rfl ?_
                  refine nx_g (opy_guard (cc := (!((v_y81 == 0) || ((decide ((v_r10.1.length : Int) > 1)) && (decide (v_y81 < v_a4)))))) (.plain 0 rfl) rfl rfl (fun hg => (op_move (.tmp 13 rfl)))) rfl ?_
                  refine nx_g (opy_guard (cc := (!((v_y81 == 0) || ((decide ((v_r10.1.length : Int) > 1)) && (decide (v_y81 < v_a4)))))) (.plain 1 rfl) rfl rfl (fun hg => (op_move (.tmp 15 rfl)))) rfl ?_
                  refine nx_g (opy_guard (cc := (!((v_y81 == 0) || ((decide ((v_r10.1.length : Int) > 1)) && (decide (v_y81 < v_a4)))))) (.plain 2 rfl) rfl rfl (fun hg => (op_mul (.cd 1 rfl hg) (.cd 0 rfl hg)))) rfl ?_
                  refine nx_g (opy_guard (cc := (!((v_y81 == 0) || ((decide ((v_r10.1.length : Int) > 1)) && (decide (v_y81 < v_a4)))))) (.plain 3 rfl) rfl rfl (fun hg => (op_move (.tmp 27 rfl)))) rfl ?_
                  obtain ⟨v_y83, hv_y83, h⟩ := bnd h
                  refine nx_g (opy_guard (cc := (!((v_y81 == 0) || ((decide ((v_r10.1.length : Int) > 1)) && (decide (v_y81 < v_a4)))))) (.plain 4 rfl) rfl rfl (fun hg => (op_indexArr (gd_t hg hv_y83) (.tmp 27 rfl) 1 rfl (.cd 0 rfl hg) u53 s3))) rfl ?_
                  refine nx_g (opy_guard (cc := (!((v_y81 == 0) || ((decide ((v_r10.1.length : Int) > 1)) && (decide (v_y81 < v_a4)))))) (.plain 5 rfl) rfl rfl (fun hg => (op_loadArr (n := 1) (c := cI) (l := v_t41) (.cd 0 rfl hg) 1 rfl _ 0 rfl (ix_spec (gd_t hg hv_y83)).2 rfl a3))) rfl ?_
                  refine nx_g (opy_guard (cc := (!((v_y81 == 0) || ((decide ((v_r10.1.length : Int) > 1)) && (decide (v_y81 < v_a4)))))) (.plain 6 rfl) rfl rfl (fun hg => (op_gtr (.cd 3 rfl hg) (.cd 0 rfl hg)))) rfl ?_
                  refine nx_o (op_or (.tmp 7 rfl) (fun hp => (.cd 0 rfl (not_t hp)))) rfl ?_
                  refine nx_o (op_move (.tmp 0 rfl)) rfl ?_
                  refine nx_g (opy_guard (cc := (!(((v_y81 == 0) || ((decide ((v_r10.1.length : Int) > 1)) && (decide (v_y81 < v_a4)))) || (decide ((w64 (v_y82.value * v_y81)) > v_y83))))) (.plain 0 rfl) rfl rfl (fun hg => (op_move (.tmp 22 rfl)))) rfl ?_
                  refine nx_g (opy_guard (cc := (!(((v_y81 == 0) || ((decide ((v_r10.1.length : Int) > 1)) && (decide (v_y81 < v_a4)))) || (decide ((w64 (v_y82.value * v_y81)) > v_y83))))) (.plain 1 rfl) rfl rfl (fun hg => (op_add (.cd 0 rfl hg) (Can.int _ _ _)))) rfl ?_
                  refine nx_g (opy_guard (cc := (!(((v_y81 == 0) || ((decide ((v_r10.1.length : Int) > 1)) && (decide (v_y81 < v_a4)))) || (decide ((w64 (v_y82.value * v_y81)) > v_y83))))) (.plain 2 rfl) rfl rfl (fun hg => (op_move (.tmp 25 rfl)))) rfl ?_
                  refine nx_g (opy_guard (cc := (!(((v_y81 == 0) || ((decide ((v_r10.1.length : Int) > 1)) && (decide (v_y81 < v_a4)))) || (decide ((w64 (v_y82.value * v_y81)) > v_y83))))) (.plain 3 rfl) rfl rfl (fun hg => (op_mul (.cd 1 rfl hg) (.cd 0 rfl hg)))) rfl ?_
                  refine nx_g (opy_guard (cc := (!(((v_y81 == 0) || ((decide ((v_r10.1.length : Int) > 1)) && (decide (v_y81 < v_a4)))) || (decide ((w64 (v_y82.value * v_y81)) > v_y83))))) (.plain 4 rfl) rfl rfl (fun hg => (op_move (.tmp 37 rfl)))) rfl ?_
                  obtain ⟨v_y84, hv_y84, h⟩ := bnd h
                  refine nx_g (opy_guard (cc := (!(((v_y81 == 0) || ((decide ((v_r10.1.length : Int) > 1)) && (decide (v_y81 < v_a4)))) || (decide ((w64 (v_y82.value * v_y81)) > v_y83))))) (.plain 5 rfl) rfl rfl (fun hg => (op_indexArr (gd_t hg hv_y84) (.tmp 37 rfl) 1 rfl (.cd 0 rfl hg) u53 s3))) rfl ?_
                  refine nx_g (opy_guard (cc := (!(((v_y81 == 0) || ((decide ((v_r10.1.length : Int) > 1)) && (decide (v_y81 < v_a4)))) || (decide ((w64 (v_y82.value * v_y81)) > v_y83))))) (.plain 6 rfl) rfl rfl (fun hg => (op_loadArr (n := 1) (c := cI) (l := v_t41) (.cd 0 rfl hg) 1 rfl _ 0 rfl (ix_spec (gd_t hg hv_y84)).2 rfl a3))) rfl ?_
                  refine nx_g (opy_guard (cc := (!(((v_y81 == 0) || ((decide ((v_r10.1.length : Int) > 1)) && (decide (v_y81 < v_a4)))) || (decide ((w64 (v_y82.value * v_y81)) > v_y83))))) (.plain 7 rfl) rfl rfl (fun hg => (op_leq (.cd 3 rfl hg) (.cd 0 rfl hg)))) rfl ?_
                  refine nx_o (op_or (.tmp 8 rfl) (fun hp => (.cd 0 rfl (not_t hp)))) rfl ?_
                  refine nx_nil ?_
                  refine Says.ex (S' := [(191, B ((((v_y81 == 0) || ((decide ((v_r10.1.length : Int) > 1)) && (decide (v_y81 < v_a4)))) || (decide ((w64 (v_y82.value * v_y81)) > v_y83))) || (decide ((w64 ((w64 (v_y82.value + 1)) * v_y81)) ≤ v_y84)))), (0, SL 2 cSample v_a1), (1, I v_a2), (2, I v_a3), (3, I v_a4), (4, I v_a5), (5, I v_a6), (16, SL 6 cNode v_r10.1), (22, .ref 101), (23, .ref 102), (27, I v_t79)]) (O' := [(101, Arr 53 1 63 cI v_t40), (102, Arr 53 1 63 cI v_t41)]) (says_pick [0, 33, 34, 35, 36, 37, 38, 39, 40, 41, 42] [0, 1] rfl rfl) ?_
                  refine ex_kx (hK136 _ _ ?_)
                  refine cw_cond (b := ((((v_y81 == 0) || ((decide ((v_r10.1.length : Int) > 1)) && (decide (v_y81 < v_a4)))) || (decide ((w64 (v_y82.value * v_y81)) > v_y83))) || (decide ((w64 ((w64 (v_y82.value + 1)) * v_y81)) ≤ v_y84)))) (.tmp 0 rfl) (fun hc => ?_) (fun hc => ?_)
                  · have h := ite_t hc h
                    refine cw_seq fun K137 hK137 => ?_
                    refine cw_region ?_
                    refine nx_o (op_assign (Can.bool _ _)) rfl ?_
                    refine nx_nil ?_
                    refine Says.ex (S' := [(12, B false)]) (O' := []) (says_pick [0] [] rfl rfl) ?_
                    refine ex_kx (hK137 _ _ ?_)
                    refine cw_ret ?_
                    refine ex_br ?_
                    refine ex_tr ?_
                    refine ex_tr ?_
                    refine ex_br ?_
                    refine ex_tr ?_
                    cases h
                    exact ex_done (.inl rfl) rfl (fun a w G V hs _ hS => res1 rfl (.tmp 0 rfl) a w G V hS)
                  · have h := ite_f hc h
                    refine cw_skip ?_
                    refine ex_bn ?_
                    refine ex_kx (hK131 _ _ ?_)
                    refine cw_region ?_
                    refine nx_o (op_move (.tmp 10 rfl)) rfl ?_
                    refine nx_o (op_add (.tmp 0 rfl) (Can.int _ _ _)) rfl ?_
                    refine nx_k [0, 1, 2, 3, 4, 5, 6, 7, 8, 9, 10, 11] (op_assign (.tmp 0 rfl)) rfl rfl ?_
                    show Nx _ _ _ _ _ [(27, I (w64 (v_t79 + 1))), (146, I (w64 (v_t79 + 1))), (145, I v_t79), (191, B ((((v_y81 == 0) || ((decide ((v_r10.1.length : Int) > 1)) && (decide (v_y81 < v_a4)))) || (decide ((w64 (v_y82.value * v_y81)) > v_y83))) || (decide ((w64 ((w64 (v_y82.value + 1)) * v_y81)) ≤ v_y84)))), (0, SL 2 cSample v_a1), (1, I v_a2), (2, I v_a3), (3, I v_a4), (4, I v_a5), (5, I v_a6), (16, SL 6 cNode v_r10.1), (22, .ref 101), (23, .ref 102)] [(101, Arr 53 1 63 cI v_t40), (102, Arr 53 1 63 cI v_t41)]
                    refine nx_nil ?_
                    refine Says.ex (S' := [(27, I (w64 (v_t79 + 1))), (0, SL 2 cSample v_a1), (1, I v_a2), (2, I v_a3), (3, I v_a4), (4, I v_a5), (5, I v_a6), (16, SL 6 cNode v_r10.1), (22, .ref 101), (23, .ref 102)]) (O' := [(101, Arr 53 1 63 cI v_t40), (102, Arr 53 1 63 cI v_t41)]) (says_pick [0, 4, 5, 6, 7, 8, 9, 10, 11, 12] [0, 1] rfl rfl) ?_
                    refine ex_kx ?_
                    refine Says.kx (S' := [(0, SL 2 cSample v_a1), (1, I v_a2), (2, I v_a3), (3, I v_a4), (4, I v_a5), (5, I v_a6), (16, SL 6 cNode v_r10.1), (22, .ref 101), (23, .ref 102), (27, I (w64 (v_t79 + 1)))]) (O' := [(101, Arr 53 1 63 cI v_t40), (102, Arr 53 1 63 cI v_t41)]) (says_pick [1, 2, 3, 4, 5, 6, 7, 8, 9, 0] [0, 1] rfl rfl) ?_
                    exact hK128 _ _ ⟨w64 (v_t79 + 1), h, rfl, rfl⟩
              · have h := ite_f hc h
                refine cw_exit ?_
                refine ex_te ?_
                refine ex_te ?_
                refine ex_be ?_
                refine ex_kx ?_
                refine Says.kx (S' := [(0, SL 2 cSample v_a1), (1, I v_a2), (2, I v_a3), (3, I v_a4), (4, I v_a5), (5, I v_a6), (16, SL 6 cNode v_r10.1)]) (O' := []) (says_pick [1, 2, 3, 4, 5, 6, 7] [] rfl rfl) ?_
                exact hK76 _ _ ⟨h, rfl, rfl⟩
        ·
          refine cw_seq fun K138 hK138 => ?_
          refine cw_region ?_
          refine nx_o (op_assign (Can.int _ _ _)) rfl ?_
          refine nx_nil ?_
          refine ex_kx (hK138 _ _ ?_)
          refine cw_block ?_
          refine Says.cw (S' := [(0, SL 2 cSample v_a1), (1, I v_a2), (2, I v_a3), (3, I v_a4), (4, I v_a5), (5, I v_a6), (16, SL 6 cNode v_r10.1), (22, .ref 101), (23, .ref 102), (24, I 0)]) (O' := [(102, Arr 53 1 63 cI (List.replicate 63 0)), (101, Arr 53 1 63 cI (List.replicate 63 0))]) (says_pick [4, 5, 6, 7, 8, 9, 3, 2, 1, 0] [0, 1] rfl rfl) ?_
          refine Says.cw (S' := [(0, SL 2 cSample v_a1), (1, I v_a2), (2, I v_a3), (3, I v_a4), (4, I v_a5), (5, I v_a6), (16, SL 6 cNode v_r10.1), (22, .ref 101), (23, .ref 102), (24, I 0)]) (O' := [(101, Arr 53 1 63 cI (List.replicate 63 0)), (102, Arr 53 1 63 cI (List.replicate 63 0))]) (says_pick [0, 1, 2, 3, 4, 5, 6, 7, 8, 9] [1, 0] rfl rfl) ?_
          refine cw_loopJ (fun n S O => ∃ (v_t102 : List Int) (v_t103 : List Int) (v_t104 : Int), orchlaw2_GrowLearns_l2 N v_a1 v_r10 v_a4 v_a3 v_a2 v_a5 v_a6 n v_t102 v_t103 v_t104 = some r ∧ S = [(0, SL 2 cSample v_a1), (1, I v_a2), (2, I v_a3), (3, I v_a4), (4, I v_a5), (5, I v_a6), (16, SL 6 cNode v_r10.1), (22, .ref 101), (23, .ref 102), (24, I v_t104)] ∧ O = [(101, Arr 53 1 63 cI v_t102), (102, Arr 53 1 63 cI v_t103)]) ?_ ?_ N ⟨(List.replicate 63 0), (List.replicate 63 0), 0, h, rfl, rfl⟩
          · rintro S O ⟨v_t102, v_t103, v_t104, h, -, -⟩
            simp [orchlaw2_GrowLearns_l2] at h
          · rintro n_2 S O ⟨v_t102, v_t103, v_t104, h, rfl, rfl⟩ K155 hK155
            rw [orchlaw2_GrowLearns_l2] at h
            refine cw_seq fun K156 hK156 => ?_
            refine cw_seq fun K157 hK157 => ?_
            refine cw_region ?_
            refine nx_o (op_move (.tmp 9 rfl)) rfl ?_
            refine nx_o (op_move (.tmp 1 rfl)) rfl ?_
            refine nx_o (op_len (.tmp 0 rfl) u22) rfl ?_
            refine nx_o (op_lss (.tmp 2 rfl) (.tmp 0 rfl)) rfl ?_
            refine nx_nil ?_
            refine Says.ex (S' := [(109, B (decide (v_t104 < (v_a1.length : Int)))), (0, SL 2 cSample v_a1), (1, I v_a2), (2, I v_a3), (3, I v_a4), (4, I v_a5), (5, I v_a6), (16, SL 6 cNode v_r10.1), (22, .ref 101), (23, .ref 102), (24, I v_t104)]) (O' := [(101, Arr 53 1 63 cI v_t102), (102, Arr 53 1 63 cI v_t103)]) (says_pick [0, 4, 5, 6, 7, 8, 9, 10, 11, 12, 13] [0, 1] rfl rfl) ?_
            refine ex_kx (hK157 _ _ ?_)
            refine cw_cond (b := (decide (v_t104 < (v_a1.length : Int)))) (.tmp 0 rfl) (fun hc => ?_) (fun hc => ?_)
            · have h := ite_t hc h
              refine cw_skip ?_
              refine ex_kx (hK156 _ _ ?_)
              refine cw_seq fun K158 hK158 => ?_
              refine cw_block ?_
              refine cw_seq fun K159 hK159 => ?_
              refine cw_region ?_
              refine nx_o (op_move (.tmp 7 rfl)) rfl ?_
              refine nx_o (op_move (.tmp 2 rfl)) rfl ?_
              refine nx_o (op_move (.tmp 12 rfl)) rfl ?_
              obtain ⟨v_y105, hv_y105, h⟩ := bnd h
              refine nx_o (op_indexX hv_y105 (.tmp 1 rfl) (.tmp 0 rfl) u22 s25) rfl ?_
              refine nx_o (op_field (.tmp 0 rfl) o25_0) rfl ?_
              refine nx_o (op_load1 (.tmp 0 rfl) a23) rfl ?_
              obtain ⟨v_r106, hv_r106, h⟩ := bnd h
              refine nx_o (op_call0 (show Fn Go.Proofs.Try.prog 20 [SL 6 cNode v_r10.1, SL 1 cI v_y105.row] [] (.tup [I v_r106.1, Er TE v_r106.2]) [] from (f20_fn N v_r10.1 v_y105.row _ hv_r106)) c20 (.cons (.tmp 5 rfl) (.cons (.tmp 0 rfl) .nil))) rfl ?_
              refine nx_o (op_move (.tmp 0 rfl)) rfl ?_
              refine nx_o (op_extract (.tmp 0 rfl) rfl) rfl ?_
              refine nx_o (op_extract (.tmp 1 rfl) rfl) rfl ?_
              refine nx_o (op_assign (.tmp 1 rfl)) rfl ?_
              refine nx_o (op_assign (.tmp 1 rfl)) rfl ?_
              refine nx_nil ?_
              refine Says.ex (S' := [(26, Er TE v_r106.2), (25, I v_r106.1), (0, SL 2 cSample v_a1), (1, I v_a2), (2, I v_a3), (3, I v_a4), (4, I v_a5), (5, I v_a6), (16, SL 6 cNode v_r10.1), (22, .ref 101), (23, .ref 102), (24, I v_t104)]) (O' := [(101, Arr 53 1 63 cI v_t102), (102, Arr 53 1 63 cI v_t103)]) (says_pick [0, 1, 13, 14, 15, 16, 17, 18, 19, 20, 21, 22] [0, 1] rfl rfl) ?_
              refine ex_kx (hK159 _ _ ?_)
              refine cw_seq fun K160 hK160 => ?_
              refine cw_seq fun K161 hK161 => ?_
              refine cw_region ?_
              refine nx_o (op_move (.tmp 0 rfl)) rfl ?_
              refine nx_o (op_neqNil (.tmp 0 rfl) u28) rfl ?_
              refine nx_nil ?_
              refine Says.ex (S' := [(123, B v_r106.2.isSome), (25, I v_r106.1), (0, SL 2 cSample v_a1), (1, I v_a2), (2, I v_a3), (3, I v_a4), (4, I v_a5), (5, I v_a6), (16, SL 6 cNode v_r10.1), (22, .ref 101), (23, .ref 102), (24, I v_t104)]) (O' := [(101, Arr 53 1 63 cI v_t102), (102, Arr 53 1 63 cI v_t103)]) (says_pick [0, 3, 4, 5, 6, 7, 8, 9, 10, 11, 12, 13] [0, 1] rfl rfl) ?_
              refine ex_kx (hK161 _ _ ?_)
              refine cw_cond (b := v_r106.2.isSome) (.tmp 0 rfl) (fun hc => ?_) (fun hc => ?_)
              · have h := ite_t hc h
                refine cw_seq fun K162 hK162 => ?_
                refine cw_region ?_
                refine nx_o (op_assign (Can.bool _ _)) rfl ?_
                refine nx_nil ?_
                refine Says.ex (S' := [(12, B false)]) (O' := []) (says_pick [0] [] rfl rfl) ?_
                refine ex_kx (hK162 _ _ ?_)
                refine cw_ret ?_
                refine ex_tr ?_
                refine ex_br ?_
                refine ex_tr ?_
                refine ex_tr ?_
                refine ex_br ?_
                refine ex_tr ?_
                cases h
                exact ex_done (.inl rfl) rfl (fun a w G V hs _ hS => res1 rfl (.tmp 0 rfl) a w G V hS)
              · have h := ite_f hc h
                refine cw_skip ?_
                refine ex_kx (hK160 _ _ ?_)
                refine cw_seq fun K163 hK163 => ?_
                refine cw_region ?_
                refine nx_o (op_move (.tmp 1 rfl)) rfl ?_
                refine nx_o (op_move (.tmp 2 rfl)) rfl ?_
                obtain ⟨v_y107, hv_y107, h⟩ := bnd h
                refine nx_o (op_indexArr hv_y107 (.tmp 11 rfl) 0 rfl (.tmp 0 rfl) u53 s3) rfl ?_
                refine nx_o (op_loadArr (n := 1) (c := cI) (l := v_t102) (.tmp 0 rfl) 0 rfl _ 0 rfl (ix_spec hv_y107).2 rfl a3) rfl ?_
                refine nx_o (op_add (.tmp 0 rfl) (Can.int _ _ _)) rfl ?_
                obtain ⟨v_y108, hv_y108, h⟩ := bnd h
                refine nx_o (op_indexArr hv_y108 (.tmp 14 rfl) 0 rfl (.tmp 4 rfl) u53 s3) rfl ?_
                refine nx_o0 (op_storeArr (n := 1) (c := cI) (l := v_t102) (.tmp 0 rfl) 0 rfl _ 0 (w64 (v_y107 + 1)) rfl (ix_spec hv_y108).2 (Nat.le_of_ble_eq_true rfl) rfl (.tmp 1 rfl) s3) ?_
                show Nx _ _ _ _ _ [(129, .pt 101 (v_r106.1.toNat * 1)), (128, I (w64 (v_y107 + 1))), (127, I v_y107), (126, .pt 101 (v_r106.1.toNat * 1)), (125, I v_r106.1), (124, I v_r106.1), (123, B v_r106.2.isSome), (25, I v_r106.1), (0, SL 2 cSample v_a1), (1, I v_a2), (2, I v_a3), (3, I v_a4), (4, I v_a5), (5, I v_a6), (16, SL 6 cNode v_r10.1), (22, .ref 101), (23, .ref 102), (24, I v_t104)] [(101, Arr 53 1 63 cI (v_t102.set v_r106.1.toNat (w64 (v_y107 + 1)))), (102, Arr 53 1 63 cI v_t103)]
                refine nx_nil ?_
                refine Says.ex (S' := [(25, I v_r106.1), (0, SL 2 cSample v_a1), (1, I v_a2), (2, I v_a3), (3, I v_a4), (4, I v_a5), (5, I v_a6), (16, SL 6 cNode v_r10.1), (22, .ref 101), (23, .ref 102), (24, I v_t104)]) (O' := [(101, Arr 53 1 63 cI (v_t102.set v_r106.1.toNat (w64 (v_y107 + 1)))), (102, Arr 53 1 63 cI v_t103)]) (says_pick [7, 8, 9, 10, 11, 12, 13, 14, 15, 16, 17] [0, 1] rfl rfl) ?_
                refine ex_kx (hK163 _ _ ?_)
                obtain ⟨v_y109, hv_y109, h⟩ := bnd h
                obtain ⟨v_y110, hv_y110, h⟩ := bnd h
                obtain ⟨v_y111, hv_y111, h⟩ := bnd h
                refine cw_draw (Plan.mk [11] [[], [], [1], [1, 2], [], [], [4, 5], [4, 5, 6], [4, 5, 6, 7], [1, 2, 3, 4, 5, 6, 7, 8], [0, 1, 2, 3, 4, 5, 6, 7, 8, 9], [0, 1, 2, 3, 4, 5, 6, 7, 8, 9, 10]] [[(25, I v_r106.1), (0, SL 2 cSample v_a1), (1, I v_a2), (2, I v_a3), (3, I v_a4), (4, I v_a5), (5, I v_a6), (16, SL 6 cNode v_r10.1), (22, .ref 101), (23, .ref 102), (24, I v_t104)], [(25, I v_r106.1), (0, SL 2 cSample v_a1), (1, I v_a2), (2, I v_a3), (3, I v_a4), (4, I v_a5), (5, I v_a6), (16, SL 6 cNode v_r10.1), (22, .ref 101), (23, .ref 102), (24, I v_t104)]] [[(101, Arr 53 1 63 cI (v_t102.set v_r106.1.toNat (w64 (v_y107 + 1)))), (102, Arr 53 1 63 cI v_t103)], [(102, Arr 53 1 63 cI (v_t103.set v_r106.1.toNat (w64 (v_y109 + v_y110.target)))), (101, Arr 53 1 63 cI (v_t102.set v_r106.1.toNat (w64 (v_y107 + 1))))]] [(130, I v_r106.1), (131, I v_r106.1), (132, .pt 102 (v_r106.1.toNat * 1)), (133, I v_y109), (134, SL 2 cSample v_a1), (135, I v_t104), (136, .ptr (cSample v_y110)), (137, .ptr ((cSample v_y110).drop 1)), (138, I v_y110.target), (139, I (w64 (v_y109 + v_y110.target))), (140, .pt 102 (v_r106.1.toNat * 1)), (0, .raw undef)]) mixed rfl rfl rfl rfl ?_ ?_ ?_
                · exact (And.intro (fun _ => (And.intro (show OpY _ _ _ [(25, I v_r106.1), (0, SL 2 cSample v_a1), (1, I v_a2), (2, I v_a3), (3, I v_a4), (4, I v_a5), (5, I v_a6), (16, SL 6 cNode v_r10.1), (22, .ref 101), (23, .ref 102), (24, I v_t104)] [(101, Arr 53 1 63 cI (v_t102.set v_r106.1.toNat (w64 (v_y107 + 1)))), (102, Arr 53 1 63 cI v_t103)] _ (I v_r106.1) [(101, Arr 53 1 63 cI (v_t102.set v_r106.1.toNat (w64 (v_y107 + 1)))), (102, Arr 53 1 63 cI v_t103)] allp from (OpX.y (op_move (.tmp 0 rfl)) rfl)) trivial)) (And.intro (fun _ => (And.intro (show OpY _ _ _ [(25, I v_r106.1), (0, SL 2 cSample v_a1), (1, I v_a2), (2, I v_a3), (3, I v_a4), (4, I v_a5), (5, I v_a6), (16, SL 6 cNode v_r10.1), (22, .ref 101), (23, .ref 102), (24, I v_t104)] [(101, Arr 53 1 63 cI (v_t102.set v_r106.1.toNat (w64 (v_y107 + 1)))), (102, Arr 53 1 63 cI v_t103)] _ (I v_r106.1) [(101, Arr 53 1 63 cI (v_t102.set v_r106.1.toNat (w64 (v_y107 + 1)))), (102, Arr 53 1 63 cI v_t103)] allp from (OpX.y (op_move (.tmp 0 rfl)) rfl)) trivial)) (And.intro (fun _ => (And.intro (show OpY _ _ _ [(25, I v_r106.1), (0, SL 2 cSample v_a1), (1, I v_a2), (2, I v_a3), (3, I v_a4), (4, I v_a5), (5, I v_a6), (16, SL 6 cNode v_r10.1), (22, .ref 101), (23, .ref 102), (24, I v_t104), (131, I v_r106.1)] [(101, Arr 53 1 63 cI (v_t102.set v_r106.1.toNat (w64 (v_y107 + 1)))), (102, Arr 53 1 63 cI v_t103)] _ (.pt 102 (v_r106.1.toNat * 1)) [(101, Arr 53 1 63 cI (v_t102.set v_r106.1.toNat (w64 (v_y107 + 1)))), (102, Arr 53 1 63 cI v_t103)] allp from (OpX.y (op_indexArr hv_y109 (.tmp 9 rfl) 1 rfl (.tmp 11 rfl) u53 s3) rfl)) trivial)) (And.intro (fun _ => (And.intro (show OpY _ _ _ [(25, I v_r106.1), (0, SL 2 cSample v_a1), (1, I v_a2), (2, I v_a3), (3, I v_a4), (4, I v_a5), (5, I v_a6), (16, SL 6 cNode v_r10.1), (22, .ref 101), (23, .ref 102), (24, I v_t104), (131, I v_r106.1), (132, .pt 102 (v_r106.1.toNat * 1))] [(101, Arr 53 1 63 cI (v_t102.set v_r106.1.toNat (w64 (v_y107 + 1)))), (102, Arr 53 1 63 cI v_t103)] _ (I v_y109) [(101, Arr 53 1 63 cI (v_t102.set v_r106.1.toNat (w64 (v_y107 + 1)))), (102, Arr 53 1 63 cI v_t103)] allp from (OpX.y (op_loadArr (n := 1) (c := cI) (l := v_t103) (.tmp 12 rfl) 1 rfl _ 0 rfl (ix_spec hv_y109).2 rfl a3) rfl)) trivial)) (And.intro (fun _ => (And.intro (show OpY _ _ _ [(25, I v_r106.1), (0, SL 2 cSample v_a1), (1, I v_a2), (2, I v_a3), (3, I v_a4), (4, I v_a5), (5, I v_a6), (16, SL 6 cNode v_r10.1), (22, .ref 101), (23, .ref 102), (24, I v_t104)] [(101, Arr 53 1 63 cI (v_t102.set v_r106.1.toNat (w64 (v_y107 + 1)))), (102, Arr 53 1 63 cI v_t103)] _ (SL 2 cSample v_a1) [(101, Arr 53 1 63 cI (v_t102.set v_r106.1.toNat (w64 (v_y107 + 1)))), (102, Arr 53 1 63 cI v_t103)] allp from (OpX.y (op_move (.tmp 1 rfl)) rfl)) trivial)) (And.intro (fun _ => (And.intro (show OpY _ _ _ [(25, I v_r106.1), (0, SL 2 cSample v_a1), (1, I v_a2), (2, I v_a3), (3, I v_a4), (4, I v_a5), (5, I v_a6), (16, SL 6 cNode v_r10.1), (22, .ref 101), (23, .ref 102), (24, I v_t104)] [(101, Arr 53 1 63 cI (v_t102.set v_r106.1.toNat (w64 (v_y107 + 1)))), (102, Arr 53 1 63 cI v_t103)] _ (I v_t104) [(101, Arr 53 1 63 cI (v_t102.set v_r106.1.toNat (w64 (v_y107 + 1)))), (102, Arr 53 1 63 cI v_t103)] allp from (OpX.y (op_move (.tmp 10 rfl)) rfl)) trivial)) (And.intro (fun _ => (And.intro (show OpY _ _ _ [(25, I v_r106.1), (0, SL 2 cSample v_a1), (1, I v_a2), (2, I v_a3), (3, I v_a4), (4, I v_a5), (5, I v_a6), (16, SL 6 cNode v_r10.1), (22, .ref 101), (23, .ref 102), (24, I v_t104), (134, SL 2 cSample v_a1), (135, I v_t104)] [(101, Arr 53 1 63 cI (v_t102.set v_r106.1.toNat (w64 (v_y107 + 1)))), (102, Arr 53 1 63 cI v_t103)] _ (.ptr (cSample v_y110)) [(101, Arr 53 1 63 cI (v_t102.set v_r106.1.toNat (w64 (v_y107 + 1)))), (102, Arr 53 1 63 cI v_t103)] allp from (OpX.y (op_indexX hv_y110 (.tmp 11 rfl) (.tmp 12 rfl) u22 s25) rfl)) trivial)) (And.intro (fun _ => (And.intro (show OpY _ _ _ [(25, I v_r106.1), (0, SL 2 cSample v_a1), (1, I v_a2), (2, I v_a3), (3, I v_a4), (4, I v_a5), (5, I v_a6), (16, SL 6 cNode v_r10.1), (22, .ref 101), (23, .ref 102), (24, I v_t104), (134, SL 2 cSample v_a1), (135, I v_t104), (136, .ptr (cSample v_y110))] [(101, Arr 53 1 63 cI (v_t102.set v_r106.1.toNat (w64 (v_y107 + 1)))), (102, Arr 53 1 63 cI v_t103)] _ (.ptr ((cSample v_y110).drop 1)) [(101, Arr 53 1 63 cI (v_t102.set v_r106.1.toNat (w64 (v_y107 + 1)))), (102, Arr 53 1 63 cI v_t103)] allp from (OpX.y (op_field (.tmp 13 rfl) o25_1) rfl)) trivial)) (And.intro (fun _ => (And.intro (show OpY _ _ _ [(25, I v_r106.1), (0, SL 2 cSample v_a1), (1, I v_a2), (2, I v_a3), (3, I v_a4), (4, I v_a5), (5, I v_a6), (16, SL 6 cNode v_r10.1), (22, .ref 101), (23, .ref 102), (24, I v_t104), (134, SL 2 cSample v_a1), (135, I v_t104), (136, .ptr (cSample v_y110)), (137, .ptr ((cSample v_y110).drop 1))] [(101, Arr 53 1 63 cI (v_t102.set v_r106.1.toNat (w64 (v_y107 + 1)))), (102, Arr 53 1 63 cI v_t103)] _ (I v_y110.target) [(101, Arr 53 1 63 cI (v_t102.set v_r106.1.toNat (w64 (v_y107 + 1)))), (102, Arr 53 1 63 cI v_t103)] allp from (OpX.y (op_load1 (.tmp 14 rfl) a3) rfl)) trivial)) (And.intro (fun _ => (And.intro (show OpY _ _ _ [(25, I v_r106.1), (0, SL 2 cSample v_a1), (1, I v_a2), (2, I v_a3), (3, I v_a4), (4, I v_a5), (5, I v_a6), (16, SL 6 cNode v_r10.1), (22, .ref 101), (23, .ref 102), (24, I v_t104), (131, I v_r106.1), (132, .pt 102 (v_r106.1.toNat * 1)), (133, I v_y109), (134, SL 2 cSample v_a1), (135, I v_t104), (136, .ptr (cSample v_y110)), (137, .ptr ((cSample v_y110).drop 1)), (138, I v_y110.target)] [(101, Arr 53 1 63 cI (v_t102.set v_r106.1.toNat (w64 (v_y107 + 1)))), (102, Arr 53 1 63 cI v_t103)] _ (I (w64 (v_y109 + v_y110.target))) [(101, Arr 53 1 63 cI (v_t102.set v_r106.1.toNat (w64 (v_y107 + 1)))), (102, Arr 53 1 63 cI v_t103)] allp from (OpX.y (op_add (.tmp 13 rfl) (.tmp 18 rfl)) rfl)) trivial)) (And.intro (fun _ => (And.intro (show OpY _ _ _ [(25, I v_r106.1), (0, SL 2 cSample v_a1), (1, I v_a2), (2, I v_a3), (3, I v_a4), (4, I v_a5), (5, I v_a6), (16, SL 6 cNode v_r10.1), (22, .ref 101), (23, .ref 102), (24, I v_t104), (130, I v_r106.1), (131, I v_r106.1), (132, .pt 102 (v_r106.1.toNat * 1)), (133, I v_y109), (134, SL 2 cSample v_a1), (135, I v_t104), (136, .ptr (cSample v_y110)), (137, .ptr ((cSample v_y110).drop 1)), (138, I v_y110.target), (139, I (w64 (v_y109 + v_y110.target)))] [(101, Arr 53 1 63 cI (v_t102.set v_r106.1.toNat (w64 (v_y107 + 1)))), (102, Arr 53 1 63 cI v_t103)] _ (.pt 102 (v_r106.1.toNat * 1)) [(101, Arr 53 1 63 cI (v_t102.set v_r106.1.toNat (w64 (v_y107 + 1)))), (102, Arr 53 1 63 cI v_t103)] allp from (OpX.y (op_indexArr hv_y111 (.tmp 9 rfl) 1 rfl (.tmp 11 rfl) u53 s3) rfl)) trivial)) (And.intro (fun hn => (Bool.false_ne_true (hn.symm.trans rfl)).elim) trivial))))))))))))
                · exact (And.intro (fun o ho => by obtain rfl := Option.some.inj ho; exact ⟨⟨_, (.raw undef), [0, 1, 2, 3, 4, 5, 6, 7, 8, 9, 10], (OpY.to (show OpY _ _ _ [(25, I v_r106.1), (0, SL 2 cSample v_a1), (1, I v_a2), (2, I v_a3), (3, I v_a4), (4, I v_a5), (5, I v_a6), (16, SL 6 cNode v_r10.1), (22, .ref 101), (23, .ref 102), (24, I v_t104), (130, I v_r106.1), (131, I v_r106.1), (132, .pt 102 (v_r106.1.toNat * 1)), (133, I v_y109), (134, SL 2 cSample v_a1), (135, I v_t104), (136, .ptr (cSample v_y110)), (137, .ptr ((cSample v_y110).drop 1)), (138, I v_y110.target), (139, I (w64 (v_y109 + v_y110.target))), (140, .pt 102 (v_r106.1.toNat * 1))] [(101, Arr 53 1 63 cI (v_t102.set v_r106.1.toNat (w64 (v_y107 + 1)))), (102, Arr 53 1 63 cI v_t103)] _ (.raw undef) _ _ from (OpX.y (op_storeArr (n := 1) (c := cI) (l := v_t103) (.tmp 21 rfl) 1 rfl _ 0 (w64 (v_y109 + v_y110.target)) rfl (ix_spec hv_y111).2 (Nat.le_of_ble_eq_true rfl) rfl (.tmp 20 rfl) s3) rfl)) rfl), rfl, rfl⟩⟩) trivial)
                show Ex _ _ _ [(25, I v_r106.1), (0, SL 2 cSample v_a1), (1, I v_a2), (2, I v_a3), (3, I v_a4), (4, I v_a5), (5, I v_a6), (16, SL 6 cNode v_r10.1), (22, .ref 101), (23, .ref 102), (24, I v_t104), (130, I v_r106.1), (131, I v_r106.1), (132, .pt 102 (v_r106.1.toNat * 1)), (133, I v_y109), (134, SL 2 cSample v_a1), (135, I v_t104), (136, .ptr (cSample v_y110)), (137, .ptr ((cSample v_y110).drop 1)), (138, I v_y110.target), (139, I (w64 (v_y109 + v_y110.target))), (140, .pt 102 (v_r106.1.toNat * 1))] [(102, Arr 53 1 63 cI (v_t103.set v_r106.1.toNat (w64 (v_y109 + v_y110.target)))), (101, Arr 53 1 63 cI (v_t102.set v_r106.1.toNat (w64 (v_y107 + 1))))]
                refine Says.ex (S' := [(0, SL 2 cSample v_a1), (1, I v_a2), (2, I v_a3), (3, I v_a4), (4, I v_a5), (5, I v_a6), (16, SL 6 cNode v_r10.1), (22, .ref 101), (23, .ref 102), (24, I v_t104)]) (O' := [(102, Arr 53 1 63 cI (v_t103.set v_r106.1.toNat (w64 (v_y109 + v_y110.target)))), (101, Arr 53 1 63 cI (v_t102.set v_r106.1.toNat (w64 (v_y107 + 1))))]) (says_pick [1, 2, 3, 4, 5, 6, 7, 8, 9, 10] [0, 1] rfl rfl) ?_
                refine ex_bn ?_
                refine ex_kx (hK158 _ _ ?_)
                refine cw_region ?_
                refine nx_o (op_move (.tmp 9 rfl)) rfl ?_
                refine nx_o (op_add (.tmp 0 rfl) (Can.int _ _ _)) rfl ?_
                refine nx_k [0, 1, 2, 3, 4, 5, 6, 7, 8, 9, 10] (op_assign (.tmp 0 rfl)) rfl rfl ?_
                show Nx _ _ _ _ _ [(24, I (w64 (v_t104 + 1))), (111, I (w64 (v_t104 + 1))), (110, I v_t104), (0, SL 2 cSample v_a1), (1, I v_a2), (2, I v_a3), (3, I v_a4), (4, I v_a5), (5, I v_a6), (16, SL 6 cNode v_r10.1), (22, .ref 101), (23, .ref 102)] [(102, Arr 53 1 63 cI (v_t103.set v_r106.1.toNat (w64 (v_y109 + v_y110.target)))), (101, Arr 53 1 63 cI (v_t102.set v_r106.1.toNat (w64 (v_y107 + 1))))]
                refine nx_nil ?_
                refine Says.ex (S' := [(24, I (w64 (v_t104 + 1))), (0, SL 2 cSample v_a1), (1, I v_a2), (2, I v_a3), (3, I v_a4), (4, I v_a5), (5, I v_a6), (16, SL 6 cNode v_r10.1), (22, .ref 101), (23, .ref 102)]) (O' := [(102, Arr 53 1 63 cI (v_t103.set v_r106.1.toNat (w64 (v_y109 + v_y110.target)))), (101, Arr 53 1 63 cI (v_t102.set v_r106.1.toNat (w64 (v_y107 + 1))))]) (says_pick [0, 3, 4, 5, 6, 7, 8, 9, 10, 11] [0, 1] rfl rfl) ?_
                refine ex_kx ?_
                refine Says.kx (S' := [(0, SL 2 cSample v_a1), (1, I v_a2), (2, I v_a3), (3, I v_a4), (4, I v_a5), (5, I v_a6), (16, SL 6 cNode v_r10.1), (22, .ref 101), (23, .ref 102), (24, I (w64 (v_t104 + 1)))]) (O' := [(102, Arr 53 1 63 cI (v_t103.set v_r106.1.toNat (w64 (v_y109 + v_y110.target)))), (101, Arr 53 1 63 cI (v_t102.set v_r106.1.toNat (w64 (v_y107 + 1))))]) (says_pick [1, 2, 3, 4, 5, 6, 7, 8, 9, 0] [0, 1] rfl rfl) ?_
                refine Says.kx (S' := [(0, SL 2 cSample v_a1), (1, I v_a2), (2, I v_a3), (3, I v_a4), (4, I v_a5), (5, I v_a6), (16, SL 6 cNode v_r10.1), (22, .ref 101), (23, .ref 102), (24, I (w64 (v_t104 + 1)))]) (O' := [(101, Arr 53 1 63 cI (v_t102.set v_r106.1.toNat (w64 (v_y107 + 1)))), (102, Arr 53 1 63 cI (v_t103.set v_r106.1.toNat (w64 (v_y109 + v_y110.target))))]) (says_pick [0, 1, 2, 3, 4, 5, 6, 7, 8, 9] [1, 0] rfl rfl) ?_
                exact hK155 _ _ ⟨(v_t102.set v_r106.1.toNat (w64 (v_y107 + 1))), (v_t103.set v_r106.1.toNat (w64 (v_y109 + v_y110.target))), w64 (v_t104 + 1), h, rfl, rfl⟩
            · have h := ite_f hc h
              refine cw_exit ?_
              refine ex_te ?_
              refine ex_te ?_
              refine ex_be ?_
              refine ex_kx ?_
              refine Says.kx (S' := [(0, SL 2 cSample v_a1), (1, I v_a2), (2, I v_a3), (3, I v_a4), (4, I v_a5), (5, I v_a6), (16, SL 6 cNode v_r10.1), (22, .ref 101), (23, .ref 102)]) (O' := [(101, Arr 53 1 63 cI v_t102), (102, Arr 53 1 63 cI v_t103)]) (says_pick [1, 2, 3, 4, 5, 6, 7, 8, 9] [0, 1] rfl rfl) ?_
              exact hK45 _ _ ⟨v_t102, v_t103, h, rfl, rfl⟩

end Go.Dl
