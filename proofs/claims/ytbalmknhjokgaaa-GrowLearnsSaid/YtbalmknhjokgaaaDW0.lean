/- Printed by wip/gen: the calls compute it. -/
import Derived.Test.YtbalmknhjokgaaaDT
import Derived.Test.YtbalmknhjokgaaaDS
set_option linter.unusedVariables false
set_option maxRecDepth 4000
set_option maxHeartbeats 2000000
namespace Go.Dl
open Go

theorem f85_fn (N : Nat) (v_n1 : Int) (r : Bool) (h : cut_Cell N v_n1 = some r) : Fn Go.Proofs.Try.prog 85 [I v_n1] [] (B r) [] := by
  unfold cut_Cell at h
  refine fn_intro [] fun85 rfl rfl (Nat.le_of_ble_eq_true rfl) rfl rfl (fun w G V => ?_)
  show Cw _ _ _ _ [(0, I v_n1)] []
  refine cw_seq fun K1 hK1 => ?_
  refine cw_region ?_
  refine nx_o (op_assign (Can.bool _ _)) rfl ?_
  refine nx_nil ?_
  refine Says.ex (S' := [(0, I v_n1)]) (O' := []) (says_pick [1] [] rfl rfl) ?_
  refine ex_kx (hK1 _ _ ?_)
  refine cw_seq fun K2 hK2 => ?_
  refine cw_region ?_
  refine nx_o (op_move (.tmp 0 rfl)) rfl ?_
  refine nx_o (op_geq (.tmp 0 rfl) (Can.int _ _ _)) rfl ?_
  refine nx_o (op_move (.tmp 0 rfl)) rfl ?_
  refine nx_g (opy_guard (cc := (decide (v_n1 ≥ (-1000000)))) (.plain 0 rfl) rfl rfl (fun hg => (op_move (.tmp 3 rfl)))) rfl ?_
  refine nx_g (opy_guard (cc := (decide (v_n1 ≥ (-1000000)))) (.plain 1 rfl) rfl rfl (fun hg => (op_leq (.cd 0 rfl hg) (Can.int _ _ _)))) rfl ?_
  refine nx_o (op_and (.tmp 2 rfl) (fun hp => (.cd 0 rfl hp))) rfl ?_
  refine nx_o (op_assign (.tmp 0 rfl)) rfl ?_
  refine nx_nil ?_
  refine Says.ex (S' := [(2, B ((decide (v_n1 ≥ (-1000000))) && (decide (v_n1 ≤ 1000000))))]) (O' := []) (says_pick [0] [] rfl rfl) ?_
  refine ex_kx (hK2 _ _ ?_)
  refine cw_ret ?_
  cases h
  exact ex_done (.inl rfl) rfl (fun a w G V hs _ hS => res1 rfl (.tmp 0 rfl) a w G V hS)

theorem f41_fn (N : Nat) (v_row1 : List Int) (r : Option Int) (h : row_Check N v_row1 = some r) : Fn Go.Proofs.Try.prog 41 [SL 1 cI v_row1] [] (Er TE r) [] := by
  unfold row_Check at h
  refine fn_intro [] fun41 rfl rfl (Nat.le_of_ble_eq_true rfl) rfl rfl (fun w G V => ?_)
  show Cw _ _ _ _ [(0, SL 1 cI v_row1)] []
  refine cw_seq fun K1 hK1 => ?_
  refine cw_region ?_
  refine nx_o (op_assign (Can.nilE _ TE)) rfl ?_
  refine nx_nil ?_
  refine Says.ex (S' := [(0, SL 1 cI v_row1)]) (O' := []) (says_pick [1] [] rfl rfl) ?_
  refine ex_kx (hK1 _ _ ?_)
  refine cw_seq fun K2 hK2 => ?_
  refine cw_seq fun K3 hK3 => ?_
  refine cw_region ?_
  refine nx_o (op_move (.tmp 0 rfl)) rfl ?_
  refine nx_o (op_len (.tmp 0 rfl) u23) rfl ?_
  refine nx_o (op_gtr (.tmp 0 rfl) (Can.int _ _ _)) rfl ?_
  refine nx_nil ?_
  refine Says.ex (S' := [(7, B (decide ((v_row1.length : Int) > 8))), (0, SL 1 cI v_row1)]) (O' := []) (says_pick [0, 3] [] rfl rfl) ?_
  refine ex_kx (hK3 _ _ ?_)
  refine cw_cond (b := (decide ((v_row1.length : Int) > 8))) (.tmp 0 rfl) (fun hc => ?_) (fun hc => ?_)
  · have h := ite_t hc h
    refine cw_seq fun K4 hK4 => ?_
    refine cw_region ?_
    refine nx_o (op_mkErr (Can.int _ _ _) u95 (fun _ h => by cases h)) rfl ?_
    refine nx_o (op_assign (.tmp 0 rfl)) rfl ?_
    refine nx_nil ?_
    refine Says.ex (S' := [(2, Er TE (some 4))]) (O' := []) (says_pick [0] [] rfl rfl) ?_
    refine ex_kx (hK4 _ _ ?_)
    refine cw_ret ?_
    refine ex_tr ?_
    cases h
    exact ex_done (.inl rfl) rfl (fun a w G V hs _ hS => res1 rfl (.tmp 0 rfl) a w G V hS)
  · have h := ite_f hc h
    refine cw_skip ?_
    refine ex_kx (hK2 _ _ ?_)
    refine cw_join (fun S O => row_Check_j1 N = some r ∧ S = [] ∧ O = []) ?_ (fun K26 hK26 => ?_)
    · rintro S O ⟨h, rfl, rfl⟩
      unfold row_Check_j1 at h
      refine cw_seq fun K27 hK27 => ?_
      refine cw_region ?_
      refine nx_o (op_assign (Can.nilE _ TE)) rfl ?_
      refine nx_nil ?_
      refine ex_kx (hK27 _ _ ?_)
      refine cw_ret ?_
      cases h
      exact ex_done (.inl rfl) rfl (fun a w G V hs _ hS => res1 rfl (.tmp 0 rfl) a w G V hS)
    ·
      refine cw_seq fun K28 hK28 => ?_
      refine cw_region ?_
      refine nx_o (op_move (.tmp 1 rfl)) rfl ?_
      refine nx_o (op_len (.tmp 0 rfl) u23) rfl ?_
      refine nx_o (op_move (Can.int _ _ _)) rfl ?_
      refine nx_nil ?_
      refine Says.ex (S' := [(11, I 0), (10, I (v_row1.length : Int)), (9, SL 1 cI v_row1)]) (O' := []) (says_pick [0, 1, 2] [] rfl rfl) ?_
      refine ex_kx (hK28 _ _ ?_)
      refine cw_block ?_
      refine Says.cw (S' := [(9, SL 1 cI v_row1), (10, I (v_row1.length : Int)), (11, I 0)]) (O' := []) (says_pick [2, 1, 0] [] rfl rfl) ?_
      refine cw_loopJ (fun n S O => ∃ (v_t15 : Int), row_Check_l1 N v_row1 n v_t15 = some r ∧ S = [(9, SL 1 cI v_row1), (10, I (v_row1.length : Int)), (11, I v_t15)] ∧ O = []) ?_ ?_ N ⟨0, h, rfl, rfl⟩
      · rintro S O ⟨v_t15, h, -, -⟩
        simp [row_Check_l1] at h
      · rintro n_1 S O ⟨v_t15, h, rfl, rfl⟩ K41 hK41
        rw [row_Check_l1] at h
        refine cw_seq fun K42 hK42 => ?_
        refine cw_region ?_
        refine nx_o (op_lss (.tmp 2 rfl) (.tmp 1 rfl)) rfl ?_
        refine nx_nil ?_
        refine ex_kx (hK42 _ _ ?_)
        refine cw_seq fun K43 hK43 => ?_
        refine cw_cond (b := (decide (v_t15 < (v_row1.length : Int)))) (.tmp 0 rfl) (fun hc => ?_) (fun hc => ?_)
        · have h := ite_t hc h
          refine cw_skip ?_
          refine ex_kx (hK43 _ _ ?_)
          refine cw_seq fun K44 hK44 => ?_
          refine cw_block ?_
          refine cw_seq fun K45 hK45 => ?_
          refine cw_region ?_
          obtain ⟨v_y16, hv_y16, h⟩ := bnd h
          refine nx_o (op_indexX hv_y16 (.tmp 1 rfl) (.tmp 3 rfl) u23 s3) rfl ?_
          refine nx_o (op_load1 (.tmp 0 rfl) a3) rfl ?_
          refine nx_o (op_assign (.tmp 0 rfl)) rfl ?_
          refine nx_nil ?_
          refine Says.ex (S' := [(4, I v_y16), (9, SL 1 cI v_row1), (10, I (v_row1.length : Int)), (11, I v_t15)]) (O' := []) (says_pick [0, 4, 5, 6] [] rfl rfl) ?_
          refine ex_kx (hK45 _ _ ?_)
          refine cw_seq fun K46 hK46 => ?_
          refine cw_region ?_
          refine nx_o (op_move (.tmp 0 rfl)) rfl ?_
          refine nx_o (op_neq (.tmp 0 rfl) (Can.int _ _ _)) rfl ?_
          refine nx_o (op_move (.tmp 0 rfl)) rfl ?_
          refine nx_g (opy_guard (cc := (v_y16 != (-1125899906842624))) (.plain 0 rfl) rfl rfl (fun hg => (op_move (.tmp 3 rfl)))) rfl ?_
          obtain ⟨v_r17, hv_r17, h⟩ := bnd h
          refine nx_g (opy_guard (cc := (v_y16 != (-1125899906842624))) (.plain 1 rfl) rfl rfl (fun hg => (op_call0 (show Fn Go.Proofs.Try.prog 85 [I v_y16] [] (B v_r17) [] from (f85_fn N v_y16 _ (gd_t hg hv_r17))) c85 (.cons (.cd 0 rfl hg) .nil)))) rfl ?_
          refine nx_g (opy_guard (cc := (v_y16 != (-1125899906842624))) (.plain 2 rfl) rfl rfl (fun hg => (op_not (.cd 0 rfl hg)))) rfl ?_
          refine nx_o (op_and (.tmp 3 rfl) (fun hp => (.cd 0 rfl hp))) rfl ?_
          refine nx_nil ?_
          refine Says.ex (S' := [(21, B ((v_y16 != (-1125899906842624)) && (!v_r17))), (9, SL 1 cI v_row1), (10, I (v_row1.length : Int)), (11, I v_t15)]) (O' := []) (says_pick [0, 8, 9, 10] [] rfl rfl) ?_
          refine ex_kx (hK46 _ _ ?_)
          refine cw_cond (b := ((v_y16 != (-1125899906842624)) && (!v_r17))) (.tmp 0 rfl) (fun hc => ?_) (fun hc => ?_)
          · have h := ite_t hc h
            refine cw_seq fun K47 hK47 => ?_
            refine cw_region ?_
            refine nx_o (op_mkErr (Can.int _ _ _) u95 (fun _ h => by cases h)) rfl ?_
            refine nx_o (op_assign (.tmp 0 rfl)) rfl ?_
            refine nx_nil ?_
            refine Says.ex (S' := [(2, Er TE (some 1))]) (O' := []) (says_pick [0] [] rfl rfl) ?_
            refine ex_kx (hK47 _ _ ?_)
            refine cw_ret ?_
            refine ex_br ?_
            refine ex_tr ?_
            refine ex_tr ?_
            refine ex_br ?_
            refine ex_tr ?_
            cases h
            exact ex_done (.inl rfl) rfl (fun a w G V hs _ hS => res1 rfl (.tmp 0 rfl) a w G V hS)
          · have h := ite_f hc h
            refine cw_skip ?_
            refine ex_bn ?_
            refine ex_kx (hK44 _ _ ?_)
            refine cw_region ?_
            refine nx_o (op_add (.tmp 3 rfl) (Can.int _ _ _)) rfl ?_
            refine nx_k [0, 1, 2, 3] (op_move (.tmp 0 rfl)) rfl rfl ?_
            show Nx _ _ _ _ _ [(11, I (w64 (v_t15 + 1))), (23, I (w64 (v_t15 + 1))), (21, B ((v_y16 != (-1125899906842624)) && (!v_r17))), (9, SL 1 cI v_row1), (10, I (v_row1.length : Int))] []
            refine nx_nil ?_
            refine Says.ex (S' := [(11, I (w64 (v_t15 + 1))), (9, SL 1 cI v_row1), (10, I (v_row1.length : Int))]) (O' := []) (says_pick [0, 3, 4] [] rfl rfl) ?_
            refine ex_kx ?_
            refine Says.kx (S' := [(9, SL 1 cI v_row1), (10, I (v_row1.length : Int)), (11, I (w64 (v_t15 + 1)))]) (O' := []) (says_pick [1, 2, 0] [] rfl rfl) ?_
            exact hK41 _ _ ⟨w64 (v_t15 + 1), h, rfl, rfl⟩
        · have h := ite_f hc h
          refine cw_exit ?_
          refine ex_te ?_
          refine ex_te ?_
          refine ex_be ?_
          refine ex_kx ?_
          refine Says.kx (S' := []) (O' := []) (says_pick [] [] rfl rfl) ?_
          exact hK26 _ _ ⟨h, rfl, rfl⟩

theorem f86_fn (N : Nat) (v_s1 : List Int) (v_v2 : Int) (r : Int) (h : slices_Index N v_s1 v_v2 = some r) : Fn Go.Proofs.Try.prog 86 [SL 1 cI v_s1, I v_v2] [] (I r) [] := by
  unfold slices_Index at h
  refine fn_intro [] fun86 rfl rfl (Nat.le_of_ble_eq_true rfl) rfl rfl (fun w G V => ?_)
  show Cw _ _ _ _ [(0, SL 1 cI v_s1), (1, I v_v2)] []
  refine cw_seq fun K1 hK1 => ?_
  refine cw_region ?_
  refine nx_o (op_assign (Can.int _ _ _)) rfl ?_
  refine nx_nil ?_
  refine Says.ex (S' := [(0, SL 1 cI v_s1), (1, I v_v2)]) (O' := []) (says_pick [1, 2] [] rfl rfl) ?_
  refine ex_kx (hK1 _ _ ?_)
  refine cw_join (fun S O => slices_Index_j1 N = some r ∧ S = [] ∧ O = []) ?_ (fun K23 hK23 => ?_)
  · rintro S O ⟨h, rfl, rfl⟩
    unfold slices_Index_j1 at h
    refine cw_seq fun K24 hK24 => ?_
    refine cw_region ?_
    refine nx_o (op_assign (Can.int _ _ _)) rfl ?_
    refine nx_nil ?_
    refine ex_kx (hK24 _ _ ?_)
    refine cw_ret ?_
    cases h
    exact ex_done (.inl rfl) rfl (fun a w G V hs _ hS => res1 rfl (.tmp 0 rfl) a w G V hS)
  ·
    refine cw_seq fun K25 hK25 => ?_
    refine cw_region ?_
    refine nx_o (op_move (.tmp 0 rfl)) rfl ?_
    refine nx_o (op_len (.tmp 0 rfl) u23) rfl ?_
    refine nx_o (op_move (Can.int _ _ _)) rfl ?_
    refine nx_nil ?_
    refine Says.ex (S' := [(8, I 0), (7, I (v_s1.length : Int)), (0, SL 1 cI v_s1), (1, I v_v2)]) (O' := []) (says_pick [0, 1, 3, 4] [] rfl rfl) ?_
    refine ex_kx (hK25 _ _ ?_)
    refine cw_block ?_
    refine Says.cw (S' := [(0, SL 1 cI v_s1), (1, I v_v2), (7, I (v_s1.length : Int)), (8, I 0)]) (O' := []) (says_pick [2, 3, 1, 0] [] rfl rfl) ?_
    refine cw_loopJ (fun n S O => ∃ (v_t11 : Int), slices_Index_l1 N v_s1 v_v2 n v_t11 = some r ∧ S = [(0, SL 1 cI v_s1), (1, I v_v2), (7, I (v_s1.length : Int)), (8, I v_t11)] ∧ O = []) ?_ ?_ N ⟨0, h, rfl, rfl⟩
    · rintro S O ⟨v_t11, h, -, -⟩
      simp [slices_Index_l1] at h
    · rintro n_1 S O ⟨v_t11, h, rfl, rfl⟩ K38 hK38
      rw [slices_Index_l1] at h
      refine cw_seq fun K39 hK39 => ?_
      refine cw_region ?_
      refine nx_o (op_lss (.tmp 3 rfl) (.tmp 2 rfl)) rfl ?_
      refine nx_nil ?_
      refine ex_kx (hK39 _ _ ?_)
      refine cw_seq fun K40 hK40 => ?_
      refine cw_cond (b := (decide (v_t11 < (v_s1.length : Int)))) (.tmp 0 rfl) (fun hc => ?_) (fun hc => ?_)
      · have h := ite_t hc h
        refine cw_skip ?_
        refine ex_kx (hK40 _ _ ?_)
        refine cw_seq fun K41 hK41 => ?_
        refine cw_block ?_
        refine cw_seq fun K42 hK42 => ?_
        refine cw_region ?_
        refine nx_o (op_move (.tmp 4 rfl)) rfl ?_
        refine nx_o (op_assign (.tmp 0 rfl)) rfl ?_
        refine nx_nil ?_
        refine Says.ex (S' := [(5, I v_t11), (0, SL 1 cI v_s1), (1, I v_v2), (7, I (v_s1.length : Int)), (8, I v_t11)]) (O' := []) (says_pick [0, 3, 4, 5, 6] [] rfl rfl) ?_
        refine ex_kx (hK42 _ _ ?_)
        refine cw_seq fun K43 hK43 => ?_
        refine cw_region ?_
        refine nx_o (op_move (.tmp 2 rfl)) rfl ?_
        refine nx_o (op_move (.tmp 2 rfl)) rfl ?_
        refine nx_o (op_move (.tmp 2 rfl)) rfl ?_
        obtain ⟨v_y12, hv_y12, h⟩ := bnd h
        refine nx_o (op_indexX hv_y12 (.tmp 1 rfl) (.tmp 0 rfl) u23 s3) rfl ?_
        refine nx_o (op_load1 (.tmp 0 rfl) a3) rfl ?_
        refine nx_o (op_eql (.tmp 4 rfl) (.tmp 0 rfl)) rfl ?_
        refine nx_nil ?_
        refine Says.ex (S' := [(16, B (v_v2 == v_y12)), (5, I v_t11), (0, SL 1 cI v_s1), (1, I v_v2), (7, I (v_s1.length : Int)), (8, I v_t11)]) (O' := []) (says_pick [0, 6, 7, 8, 9, 10] [] rfl rfl) ?_
        refine ex_kx (hK43 _ _ ?_)
        refine cw_cond (b := (v_v2 == v_y12)) (.tmp 0 rfl) (fun hc => ?_) (fun hc => ?_)
        · have h := ite_t hc h
          refine cw_seq fun K44 hK44 => ?_
          refine cw_region ?_
          refine nx_o (op_move (.tmp 1 rfl)) rfl ?_
          refine nx_o (op_assign (.tmp 0 rfl)) rfl ?_
          refine nx_nil ?_
          refine Says.ex (S' := [(4, I v_t11)]) (O' := []) (says_pick [0] [] rfl rfl) ?_
          refine ex_kx (hK44 _ _ ?_)
          refine cw_ret ?_
          refine ex_br ?_
          refine ex_tr ?_
          refine ex_tr ?_
          refine ex_br ?_
          refine ex_tr ?_
          cases h
          exact ex_done (.inl rfl) rfl (fun a w G V hs _ hS => res1 rfl (.tmp 0 rfl) a w G V hS)
        · have h := ite_f hc h
          refine cw_skip ?_
          refine ex_bn ?_
          refine ex_kx (hK41 _ _ ?_)
          refine cw_region ?_
          refine nx_o (op_add (.tmp 5 rfl) (Can.int _ _ _)) rfl ?_
          refine nx_k [0, 1, 2, 3, 4, 5] (op_move (.tmp 0 rfl)) rfl rfl ?_
          show Nx _ _ _ _ _ [(8, I (w64 (v_t11 + 1))), (18, I (w64 (v_t11 + 1))), (16, B (v_v2 == v_y12)), (5, I v_t11), (0, SL 1 cI v_s1), (1, I v_v2), (7, I (v_s1.length : Int))] []
          refine nx_nil ?_
          refine Says.ex (S' := [(8, I (w64 (v_t11 + 1))), (0, SL 1 cI v_s1), (1, I v_v2), (7, I (v_s1.length : Int))]) (O' := []) (says_pick [0, 4, 5, 6] [] rfl rfl) ?_
          refine ex_kx ?_
          refine Says.kx (S' := [(0, SL 1 cI v_s1), (1, I v_v2), (7, I (v_s1.length : Int)), (8, I (w64 (v_t11 + 1)))]) (O' := []) (says_pick [1, 2, 3, 0] [] rfl rfl) ?_
          exact hK38 _ _ ⟨w64 (v_t11 + 1), h, rfl, rfl⟩
      · have h := ite_f hc h
        refine cw_exit ?_
        refine ex_te ?_
        refine ex_te ?_
        refine ex_be ?_
        refine ex_kx ?_
        refine Says.kx (S' := []) (O' := []) (says_pick [] [] rfl rfl) ?_
        exact hK23 _ _ ⟨h, rfl, rfl⟩

theorem f42_fn (N : Nat) (v_s1 : List Int) (v_v2 : Int) (r : Bool) (h : slices_Contains N v_s1 v_v2 = some r) : Fn Go.Proofs.Try.prog 42 [SL 1 cI v_s1, I v_v2] [] (B r) [] := by
  unfold slices_Contains at h
  refine fn_intro [] fun42 rfl rfl (Nat.le_of_ble_eq_true rfl) rfl rfl (fun w G V => ?_)
  show Cw _ _ _ _ [(0, SL 1 cI v_s1), (1, I v_v2)] []
  refine cw_seq fun K1 hK1 => ?_
  refine cw_region ?_
  refine nx_o (op_assign (Can.bool _ _)) rfl ?_
  refine nx_nil ?_
  refine Says.ex (S' := [(0, SL 1 cI v_s1), (1, I v_v2)]) (O' := []) (says_pick [1, 2] [] rfl rfl) ?_
  refine ex_kx (hK1 _ _ ?_)
  refine cw_seq fun K2 hK2 => ?_
  refine cw_region ?_
  refine nx_o (op_move (.tmp 0 rfl)) rfl ?_
  refine nx_o (op_move (.tmp 2 rfl)) rfl ?_
  obtain ⟨v_r3, hv_r3, h⟩ := bnd h
  refine nx_o (op_call0 (show Fn Go.Proofs.Try.prog 86 [SL 1 cI v_s1, I v_v2] [] (I v_r3) [] from (f86_fn N v_s1 v_v2 _ hv_r3)) c86 (.cons (.tmp 1 rfl) (.cons (.tmp 0 rfl) .nil))) rfl ?_
  refine nx_o (op_geq (.tmp 0 rfl) (Can.int _ _ _)) rfl ?_
  refine nx_o (op_assign (.tmp 0 rfl)) rfl ?_
  refine nx_nil ?_
  refine Says.ex (S' := [(4, B (decide (v_r3 ≥ 0)))]) (O' := []) (says_pick [0] [] rfl rfl) ?_
  refine ex_kx (hK2 _ _ ?_)
  refine cw_ret ?_
  cases h
  exact ex_done (.inl rfl) rfl (fun a w G V hs _ hS => res1 rfl (.tmp 0 rfl) a w G V hS)

theorem f11_fn (N : Nat) (v_a1 : List Sample) (v_a2 : Int) (r : Int × (Option Int)) (h : grow_Check N v_a1 v_a2 = some r) : Fn Go.Proofs.Try.prog 11 [SL 2 cSample v_a1, I v_a2] [] (.tup [I r.1, Er TE r.2]) [] := by
  unfold grow_Check at h
  refine fn_intro [] fun11 rfl rfl (Nat.le_of_ble_eq_true rfl) rfl rfl (fun w G V => ?_)
  show Cw _ _ _ _ [(0, SL 2 cSample v_a1), (1, I v_a2)] []
  refine cw_seq fun K1 hK1 => ?_
  refine cw_region ?_
  refine nx_o (op_assign (Can.int _ _ _)) rfl ?_
  refine nx_o (op_assign (Can.nilE _ TE)) rfl ?_
  refine nx_nil ?_
  refine Says.ex (S' := [(0, SL 2 cSample v_a1), (1, I v_a2)]) (O' := []) (says_pick [2, 3] [] rfl rfl) ?_
  refine ex_kx (hK1 _ _ ?_)
  refine cw_seq fun K2 hK2 => ?_
  refine cw_block ?_
  refine cw_seq fun K3 hK3 => ?_
  refine cw_region ?_
  refine nx_o (op_move (.tmp 0 rfl)) rfl ?_
  refine nx_o (op_len (.tmp 0 rfl) u22) rfl ?_
  refine nx_o (op_gtr (.tmp 0 rfl) (Can.int _ _ _)) rfl ?_
  refine nx_o (op_assign (.tmp 0 rfl)) rfl ?_
  refine nx_nil ?_
  refine Says.ex (S' := [(9, B (decide ((v_a1.length : Int) > 60))), (0, SL 2 cSample v_a1), (1, I v_a2)]) (O' := []) (says_pick [0, 4, 5] [] rfl rfl) ?_
  refine ex_kx (hK3 _ _ ?_)
  refine cw_cond (b := (decide ((v_a1.length : Int) > 60))) (.tmp 0 rfl) (fun hc => ?_) (fun hc => ?_)
  · have h := ite_t hc h
    refine cw_seq fun K4 hK4 => ?_
    refine cw_region ?_
    refine nx_o (op_mkErr (Can.int _ _ _) u95 (fun _ h => by cases h)) rfl ?_
    refine nx_o (op_assign (Can.int _ _ _)) rfl ?_
    refine nx_o (op_assign (.tmp 1 rfl)) rfl ?_
    refine nx_nil ?_
    refine Says.ex (S' := [(5, Er TE (some 4)), (4, I 0)]) (O' := []) (says_pick [0, 1] [] rfl rfl) ?_
    refine ex_kx (hK4 _ _ ?_)
    refine cw_ret ?_
    refine ex_br ?_
    refine ex_tr ?_
    cases h
    refine Says.ex (S' := [(4, I 0), (5, Er TE (some 4))]) (O' := []) (says_pick [1, 0] [] rfl rfl) ?_
    exact ex_done (.inl rfl) rfl (fun a w G V hs _ hS => resM rfl (.tmp (.tmp 0 rfl) (.tmp (.tmp 1 rfl) .nil)) a w G V hs hS)
  · have h := ite_f hc h
    refine cw_seq fun K5 hK5 => ?_
    refine cw_region ?_
    refine nx_o (op_move (.tmp 1 rfl)) rfl ?_
    refine nx_o (op_len (.tmp 0 rfl) u22) rfl ?_
    refine nx_o (op_eql (.tmp 0 rfl) (Can.int _ _ _)) rfl ?_
    refine nx_o (op_assign (.tmp 0 rfl)) rfl ?_
    refine nx_nil ?_
    refine Says.ex (S' := [(14, B ((v_a1.length : Int) == 0)), (0, SL 2 cSample v_a1), (1, I v_a2)]) (O' := []) (says_pick [0, 5, 6] [] rfl rfl) ?_
    refine ex_kx (hK5 _ _ ?_)
    refine cw_cond (b := ((v_a1.length : Int) == 0)) (.tmp 0 rfl) (fun hc => ?_) (fun hc => ?_)
    · have h := ite_t hc h
      refine cw_seq fun K6 hK6 => ?_
      refine cw_region ?_
      refine nx_o (op_mkErr (Can.int _ _ _) u95 (fun _ h => by cases h)) rfl ?_
      refine nx_o (op_assign (Can.int _ _ _)) rfl ?_
      refine nx_o (op_assign (.tmp 1 rfl)) rfl ?_
      refine nx_nil ?_
      refine Says.ex (S' := [(5, Er TE (some 5)), (4, I 0)]) (O' := []) (says_pick [0, 1] [] rfl rfl) ?_
      refine ex_kx (hK6 _ _ ?_)
      refine cw_ret ?_
      refine ex_br ?_
      refine ex_tr ?_
      cases h
      refine Says.ex (S' := [(4, I 0), (5, Er TE (some 5))]) (O' := []) (says_pick [1, 0] [] rfl rfl) ?_
      exact ex_done (.inl rfl) rfl (fun a w G V hs _ hS => resM rfl (.tmp (.tmp 0 rfl) (.tmp (.tmp 1 rfl) .nil)) a w G V hs hS)
    · have h := ite_f hc h
      refine cw_seq fun K7 hK7 => ?_
      refine cw_region ?_
      refine nx_o (op_move (.tmp 2 rfl)) rfl ?_
      refine nx_o (op_lss (.tmp 0 rfl) (Can.int _ _ _)) rfl ?_
      refine nx_o (op_move (.tmp 0 rfl)) rfl ?_
      refine nx_g (opy_guard (cc := (!(decide (v_a2 < 0)))) (.plain 0 rfl) rfl rfl (fun hg => (op_move (.tmp 5 rfl)))) rfl ?_
      refine nx_g (opy_guard (cc := (!(decide (v_a2 < 0)))) (.plain 1 rfl) rfl rfl (fun hg => (op_gtr (.cd 0 rfl hg) (Can.int _ _ _)))) rfl ?_
      refine nx_o (op_or (.tmp 2 rfl) (fun hp => (.cd 0 rfl (not_t hp)))) rfl ?_
      refine nx_o (op_assign (.tmp 0 rfl)) rfl ?_
      refine nx_nil ?_
      refine Says.ex (S' := [(19, B ((decide (v_a2 < 0)) || (decide (v_a2 > 8)))), (0, SL 2 cSample v_a1), (1, I v_a2)]) (O' := []) (says_pick [0, 8, 9] [] rfl rfl) ?_
      refine ex_kx (hK7 _ _ ?_)
      refine cw_cond (b := ((decide (v_a2 < 0)) || (decide (v_a2 > 8)))) (.tmp 0 rfl) (fun hc => ?_) (fun hc => ?_)
      · have h := ite_t hc h
        refine cw_seq fun K8 hK8 => ?_
        refine cw_region ?_
        refine nx_o (op_mkErr (Can.int _ _ _) u95 (fun _ h => by cases h)) rfl ?_
        refine nx_o (op_assign (Can.int _ _ _)) rfl ?_
        refine nx_o (op_assign (.tmp 1 rfl)) rfl ?_
        refine nx_nil ?_
        refine Says.ex (S' := [(5, Er TE (some 1)), (4, I 0)]) (O' := []) (says_pick [0, 1] [] rfl rfl) ?_
        refine ex_kx (hK8 _ _ ?_)
        refine cw_ret ?_
        refine ex_br ?_
        refine ex_tr ?_
        cases h
        refine Says.ex (S' := [(4, I 0), (5, Er TE (some 1))]) (O' := []) (says_pick [1, 0] [] rfl rfl) ?_
        exact ex_done (.inl rfl) rfl (fun a w G V hs _ hS => resM rfl (.tmp (.tmp 0 rfl) (.tmp (.tmp 1 rfl) .nil)) a w G V hs hS)
      · have h := ite_f hc h
        refine cw_skip ?_
        refine ex_bn ?_
        refine ex_kx (hK2 _ _ ?_)
        refine cw_join (fun S O => grow_Check_j1 N = some r ∧ S = [] ∧ O = []) ?_ (fun K54 hK54 => ?_)
        · rintro S O ⟨h, rfl, rfl⟩
          unfold grow_Check_j1 at h
          refine cw_seq fun K55 hK55 => ?_
          refine cw_region ?_
          refine nx_o (op_assign (Can.int _ _ _)) rfl ?_
          refine nx_o (op_assign (Can.nilE _ TE)) rfl ?_
          refine nx_nil ?_
          refine ex_kx (hK55 _ _ ?_)
          refine cw_ret ?_
          cases h
          refine Says.ex (S' := [(4, I 0), (5, Er TE none)]) (O' := []) (says_pick [1, 0] [] rfl rfl) ?_
          exact ex_done (.inl rfl) rfl (fun a w G V hs _ hS => resM rfl (.tmp (.tmp 0 rfl) (.tmp (.tmp 1 rfl) .nil)) a w G V hs hS)
        ·
          refine cw_seq fun K56 hK56 => ?_
          refine cw_region ?_
          refine nx_o (op_move (.tmp 1 rfl)) rfl ?_
          refine nx_o (op_len (.tmp 0 rfl) u22) rfl ?_
          refine nx_o (op_move (Can.int _ _ _)) rfl ?_
          refine nx_nil ?_
          refine Says.ex (S' := [(29, I 0), (28, I (v_a1.length : Int)), (27, SL 2 cSample v_a1), (1, I v_a2)]) (O' := []) (says_pick [0, 1, 2, 5] [] rfl rfl) ?_
          refine ex_kx (hK56 _ _ ?_)
          refine cw_block ?_
          refine Says.cw (S' := [(1, I v_a2), (27, SL 2 cSample v_a1), (28, I (v_a1.length : Int)), (29, I 0)]) (O' := []) (says_pick [3, 2, 1, 0] [] rfl rfl) ?_
          refine cw_loopJ (fun n S O => ∃ (v_t21 : Int), grow_Check_l1 N v_a1 v_a2 n v_t21 = some r ∧ S = [(1, I v_a2), (27, SL 2 cSample v_a1), (28, I (v_a1.length : Int)), (29, I v_t21)] ∧ O = []) ?_ ?_ N ⟨0, h, rfl, rfl⟩
          · rintro S O ⟨v_t21, h, -, -⟩
            simp [grow_Check_l1] at h
          · rintro n_1 S O ⟨v_t21, h, rfl, rfl⟩ K85 hK85
            rw [grow_Check_l1] at h
            refine cw_seq fun K86 hK86 => ?_
            refine cw_region ?_
            refine nx_o (op_lss (.tmp 3 rfl) (.tmp 2 rfl)) rfl ?_
            refine nx_nil ?_
            refine ex_kx (hK86 _ _ ?_)
            refine cw_seq fun K87 hK87 => ?_
            refine cw_cond (b := (decide (v_t21 < (v_a1.length : Int)))) (.tmp 0 rfl) (fun hc => ?_) (fun hc => ?_)
            · have h := ite_t hc h
              refine cw_skip ?_
              refine ex_kx (hK87 _ _ ?_)
              refine cw_seq fun K88 hK88 => ?_
              refine cw_block ?_
              refine cw_seq fun K89 hK89 => ?_
              refine cw_region ?_
              refine nx_o (op_move (.tmp 4 rfl)) rfl ?_
              obtain ⟨v_y22, hv_y22, h⟩ := bnd h
              refine nx_o (op_indexX hv_y22 (.tmp 3 rfl) (.tmp 5 rfl) u22 s25) rfl ?_
              refine nx_o (op_loadA (cSample v_y22) (.tmp 0 rfl) a25 s25 rfl) rfl ?_
              refine nx_op (op_alloc 106 (cSample (Sample.mk [] 0)) za25 zSample rfl) rfl ?_
              show Nx _ _ _ _ _ [(7, .ref 106), (33, .agg (cSample v_y22)), (32, .ptr (cSample v_y22)), (31, I v_t21), (30, B (decide (v_t21 < (v_a1.length : Int)))), (1, I v_a2), (27, SL 2 cSample v_a1), (28, I (v_a1.length : Int)), (29, I v_t21)] [(106, .var 25 [SL 1 cI [], I 0])]
              refine nx_o (op_assign (.tmp 3 rfl)) rfl ?_
              refine nx_o0 (op_storeVA (its := (cSample v_y22)) (.tmp 1 rfl) 0 rfl (.agg (.tmp 2 rfl)) rfl s25) ?_
              show Nx _ _ _ _ _ [(6, I v_t21), (7, .ref 106), (33, .agg (cSample v_y22)), (32, .ptr (cSample v_y22)), (31, I v_t21), (30, B (decide (v_t21 < (v_a1.length : Int)))), (1, I v_a2), (27, SL 2 cSample v_a1), (28, I (v_a1.length : Int)), (29, I v_t21)] [(106, .var 25 [SL 1 cI v_y22.row, I v_y22.target])]
              refine nx_nil ?_
              refine Says.ex (S' := [(6, I v_t21), (7, .ref 106), (1, I v_a2), (27, SL 2 cSample v_a1), (28, I (v_a1.length : Int)), (29, I v_t21)]) (O' := [(106, .var 25 [SL 1 cI v_y22.row, I v_y22.target])]) (says_pick [0, 1, 6, 7, 8, 9] [0] rfl rfl) ?_
              refine ex_kx (hK89 _ _ ?_)
              refine cw_seq fun K90 hK90 => ?_
              refine cw_seq fun K91 hK91 => ?_
              refine cw_region ?_
              refine nx_o (op_fieldVar (.tmp 1 rfl) 0 rfl o25_0) rfl ?_
              refine nx_o (op_loadV (.tmp 0 rfl) 0 rfl rfl a23) rfl ?_
              obtain ⟨v_r23, hv_r23, h⟩ := bnd h
              refine nx_o (op_call0 (show Fn Go.Proofs.Try.prog 41 [SL 1 cI v_y22.row] [] (Er TE v_r23) [] from (f41_fn N v_y22.row _ hv_r23)) c41 (.cons (.tmp 0 rfl) .nil)) rfl ?_
              refine nx_o (op_assign (.tmp 0 rfl)) rfl ?_
              refine nx_nil ?_
              refine Says.ex (S' := [(8, Er TE v_r23), (6, I v_t21), (7, .ref 106), (1, I v_a2), (27, SL 2 cSample v_a1), (28, I (v_a1.length : Int)), (29, I v_t21)]) (O' := [(106, .var 25 [SL 1 cI v_y22.row, I v_y22.target])]) (says_pick [0, 4, 5, 6, 7, 8, 9] [0] rfl rfl) ?_
              refine ex_kx (hK91 _ _ ?_)
              refine cw_seq fun K92 hK92 => ?_
              refine cw_region ?_
              refine nx_o (op_move (.tmp 0 rfl)) rfl ?_
              refine nx_o (op_neqNil (.tmp 0 rfl) u28) rfl ?_
              refine nx_nil ?_
              refine Says.ex (S' := [(38, B v_r23.isSome), (8, Er TE v_r23), (6, I v_t21), (7, .ref 106), (1, I v_a2), (27, SL 2 cSample v_a1), (28, I (v_a1.length : Int)), (29, I v_t21)]) (O' := [(106, .var 25 [SL 1 cI v_y22.row, I v_y22.target])]) (says_pick [0, 2, 3, 4, 5, 6, 7, 8] [0] rfl rfl) ?_
              refine ex_kx (hK92 _ _ ?_)
              refine cw_cond (b := v_r23.isSome) (.tmp 0 rfl) (fun hc => ?_) (fun hc => ?_)
              · have h := ite_t hc h
                refine cw_seq fun K93 hK93 => ?_
                refine cw_region ?_
                refine nx_o (op_move (.tmp 2 rfl)) rfl ?_
                refine nx_o (op_move (.tmp 2 rfl)) rfl ?_
                refine nx_o (op_assign (.tmp 1 rfl)) rfl ?_
                refine nx_o (op_assign (.tmp 1 rfl)) rfl ?_
                refine nx_nil ?_
                refine Says.ex (S' := [(5, Er TE v_r23), (4, I v_t21)]) (O' := []) (says_pick [0, 1] [] rfl rfl) ?_
                refine ex_kx (hK93 _ _ ?_)
                refine cw_ret ?_
                refine ex_tr ?_
                refine ex_br ?_
                refine ex_tr ?_
                refine ex_tr ?_
                refine ex_br ?_
                refine ex_tr ?_
                cases h
                refine Says.ex (S' := [(4, I v_t21), (5, Er TE v_r23)]) (O' := []) (says_pick [1, 0] [] rfl rfl) ?_
                exact ex_done (.inl rfl) rfl (fun a w G V hs _ hS => resM rfl (.tmp (.tmp 0 rfl) (.tmp (.tmp 1 rfl) .nil)) a w G V hs hS)
              · have h := ite_f hc h
                refine cw_skip ?_
                refine ex_kx (hK90 _ _ ?_)
                refine cw_block ?_
                refine cw_seq fun K94 hK94 => ?_
                refine cw_region ?_
                refine nx_o (op_fieldVar (.tmp 3 rfl) 0 rfl o25_1) rfl ?_
                refine nx_o (op_loadV (.tmp 0 rfl) 0 rfl rfl a3) rfl ?_
                refine nx_o (op_lss (.tmp 0 rfl) (Can.int _ _ _)) rfl ?_
                refine nx_o (op_move (.tmp 0 rfl)) rfl ?_
                refine nx_g (opy_guard (cc := (!(decide (v_y22.target < (-1000))))) (.plain 0 rfl) rfl rfl (fun hg => (op_fieldVar (.tmp 7 rfl) 0 rfl o25_1))) rfl ?_
                refine nx_g (opy_guard (cc := (!(decide (v_y22.target < (-1000))))) (.plain 1 rfl) rfl rfl (fun hg => (op_loadV (.cd 0 rfl hg) 0 rfl rfl a3))) rfl ?_
                refine nx_g (opy_guard (cc := (!(decide (v_y22.target < (-1000))))) (.plain 2 rfl) rfl rfl (fun hg => (op_gtr (.cd 0 rfl hg) (Can.int _ _ _)))) rfl ?_
                refine nx_o (op_or (.tmp 3 rfl) (fun hp => (.cd 0 rfl (not_t hp)))) rfl ?_
                refine nx_o (op_assign (.tmp 0 rfl)) rfl ?_
                refine nx_nil ?_
                refine Says.ex (S' := [(41, B ((decide (v_y22.target < (-1000))) || (decide (v_y22.target > 1000)))), (6, I v_t21), (7, .ref 106), (1, I v_a2), (27, SL 2 cSample v_a1), (28, I (v_a1.length : Int)), (29, I v_t21)]) (O' := [(106, .var 25 [SL 1 cI v_y22.row, I v_y22.target])]) (says_pick [0, 11, 12, 13, 14, 15, 16] [0] rfl rfl) ?_
                refine ex_kx (hK94 _ _ ?_)
                refine cw_cond (b := ((decide (v_y22.target < (-1000))) || (decide (v_y22.target > 1000)))) (.tmp 0 rfl) (fun hc => ?_) (fun hc => ?_)
                · have h := ite_t hc h
                  refine cw_seq fun K95 hK95 => ?_
                  refine cw_region ?_
                  refine nx_o (op_move (.tmp 1 rfl)) rfl ?_
                  refine nx_o (op_mkErr (Can.int _ _ _) u95 (fun _ h => by cases h)) rfl ?_
                  refine nx_o (op_assign (.tmp 1 rfl)) rfl ?_
                  refine nx_o (op_assign (.tmp 1 rfl)) rfl ?_
                  refine nx_nil ?_
                  refine Says.ex (S' := [(5, Er TE (some 1)), (4, I v_t21)]) (O' := []) (says_pick [0, 1] [] rfl rfl) ?_
                  refine ex_kx (hK95 _ _ ?_)
                  refine cw_ret ?_
                  refine ex_br ?_
                  refine ex_br ?_
                  refine ex_tr ?_
                  refine ex_tr ?_
                  refine ex_br ?_
                  refine ex_tr ?_
                  cases h
                  refine Says.ex (S' := [(4, I v_t21), (5, Er TE (some 1))]) (O' := []) (says_pick [1, 0] [] rfl rfl) ?_
                  exact ex_done (.inl rfl) rfl (fun a w G V hs _ hS => resM rfl (.tmp (.tmp 0 rfl) (.tmp (.tmp 1 rfl) .nil)) a w G V hs hS)
                · have h := ite_f hc h
                  refine cw_seq fun K96 hK96 => ?_
                  refine cw_region ?_
                  refine nx_o (op_fieldVar (.tmp 2 rfl) 0 rfl o25_0) rfl ?_
                  refine nx_o (op_loadV (.tmp 0 rfl) 0 rfl rfl a23) rfl ?_
                  refine nx_o (op_len (.tmp 0 rfl) u23) rfl ?_
                  refine nx_o (op_move (.tmp 6 rfl)) rfl ?_
                  refine nx_o (op_neq (.tmp 1 rfl) (.tmp 0 rfl)) rfl ?_
                  refine nx_o (op_assign (.tmp 0 rfl)) rfl ?_
                  refine nx_nil ?_
                  refine Says.ex (S' := [(52, B ((v_y22.row.length : Int) != v_a2)), (6, I v_t21), (7, .ref 106), (1, I v_a2), (27, SL 2 cSample v_a1), (28, I (v_a1.length : Int)), (29, I v_t21)]) (O' := [(106, .var 25 [SL 1 cI v_y22.row, I v_y22.target])]) (says_pick [0, 7, 8, 9, 10, 11, 12] [0] rfl rfl) ?_
                  refine ex_kx (hK96 _ _ ?_)
                  refine cw_cond (b := ((v_y22.row.length : Int) != v_a2)) (.tmp 0 rfl) (fun hc => ?_) (fun hc => ?_)
                  · have h := ite_t hc h
                    refine cw_seq fun K97 hK97 => ?_
                    refine cw_region ?_
                    refine nx_o (op_move (.tmp 1 rfl)) rfl ?_
                    refine nx_o (op_mkErr (Can.int _ _ _) u95 (fun _ h => by cases h)) rfl ?_
                    refine nx_o (op_assign (.tmp 1 rfl)) rfl ?_
                    refine nx_o (op_assign (.tmp 1 rfl)) rfl ?_
                    refine nx_nil ?_
                    refine Says.ex (S' := [(5, Er TE (some 3)), (4, I v_t21)]) (O' := []) (says_pick [0, 1] [] rfl rfl) ?_
                    refine ex_kx (hK97 _ _ ?_)
                    refine cw_ret ?_
                    refine ex_br ?_
                    refine ex_br ?_
                    refine ex_tr ?_
                    refine ex_tr ?_
                    refine ex_br ?_
                    refine ex_tr ?_
                    cases h
                    refine Says.ex (S' := [(4, I v_t21), (5, Er TE (some 3))]) (O' := []) (says_pick [1, 0] [] rfl rfl) ?_
                    exact ex_done (.inl rfl) rfl (fun a w G V hs _ hS => resM rfl (.tmp (.tmp 0 rfl) (.tmp (.tmp 1 rfl) .nil)) a w G V hs hS)
                  · have h := ite_f hc h
                    refine cw_seq fun K98 hK98 => ?_
                    refine cw_region ?_
                    refine nx_o (op_fieldVar (.tmp 2 rfl) 0 rfl o25_0) rfl ?_
                    refine nx_o (op_loadV (.tmp 0 rfl) 0 rfl rfl a23) rfl ?_
                    obtain ⟨v_r24, hv_r24, h⟩ := bnd h
                    refine nx_o (op_call0 (show Fn Go.Proofs.Try.prog 42 [SL 1 cI v_y22.row, I (-1125899906842624)] [] (B v_r24) [] from (f42_fn N v_y22.row (-1125899906842624) _ hv_r24)) c42 (.cons (.tmp 0 rfl) (.cons (Can.int _ _ _) .nil))) rfl ?_
                    refine nx_o (op_assign (.tmp 0 rfl)) rfl ?_
                    refine nx_nil ?_
                    refine Says.ex (S' := [(60, B v_r24), (6, I v_t21), (1, I v_a2), (27, SL 2 cSample v_a1), (28, I (v_a1.length : Int)), (29, I v_t21)]) (O' := []) (says_pick [0, 5, 7, 8, 9, 10] [] rfl rfl) ?_
                    refine ex_kx (hK98 _ _ ?_)
                    refine cw_cond (b := v_r24) (.tmp 0 rfl) (fun hc => ?_) (fun hc => ?_)
                    · have h := ite_t hc h
                      refine cw_seq fun K99 hK99 => ?_
                      refine cw_region ?_
                      refine nx_o (op_move (.tmp 1 rfl)) rfl ?_
                      refine nx_o (op_mkErr (Can.int _ _ _) u95 (fun _ h => by cases h)) rfl ?_
                      refine nx_o (op_assign (.tmp 1 rfl)) rfl ?_
                      refine nx_o (op_assign (.tmp 1 rfl)) rfl ?_
                      refine nx_nil ?_
                      refine Says.ex (S' := [(5, Er TE (some 5)), (4, I v_t21)]) (O' := []) (says_pick [0, 1] [] rfl rfl) ?_
                      refine ex_kx (hK99 _ _ ?_)
                      refine cw_ret ?_
                      refine ex_br ?_
                      refine ex_br ?_
                      refine ex_tr ?_
                      refine ex_tr ?_
                      refine ex_br ?_
                      refine ex_tr ?_
                      cases h
                      refine Says.ex (S' := [(4, I v_t21), (5, Er TE (some 5))]) (O' := []) (says_pick [1, 0] [] rfl rfl) ?_
                      exact ex_done (.inl rfl) rfl (fun a w G V hs _ hS => resM rfl (.tmp (.tmp 0 rfl) (.tmp (.tmp 1 rfl) .nil)) a w G V hs hS)
                    · have h := ite_f hc h
                      refine cw_skip ?_
                      refine ex_bn ?_
                      refine ex_bn ?_
                      refine ex_kx (hK88 _ _ ?_)
                      refine cw_region ?_
                      refine nx_o (op_add (.tmp 5 rfl) (Can.int _ _ _)) rfl ?_
                      refine nx_k [0, 1, 2, 3, 4, 5] (op_move (.tmp 0 rfl)) rfl rfl ?_
                      show Nx _ _ _ _ _ [(29, I (w64 (v_t21 + 1))), (66, I (w64 (v_t21 + 1))), (60, B v_r24), (6, I v_t21), (1, I v_a2), (27, SL 2 cSample v_a1), (28, I (v_a1.length : Int))] []
                      refine nx_nil ?_
                      refine Says.ex (S' := [(29, I (w64 (v_t21 + 1))), (1, I v_a2), (27, SL 2 cSample v_a1), (28, I (v_a1.length : Int))]) (O' := []) (says_pick [0, 4, 5, 6] [] rfl rfl) ?_
                      refine ex_kx ?_
                      refine Says.kx (S' := [(1, I v_a2), (27, SL 2 cSample v_a1), (28, I (v_a1.length : Int)), (29, I (w64 (v_t21 + 1)))]) (O' := []) (says_pick [1, 2, 3, 0] [] rfl rfl) ?_
                      exact hK85 _ _ ⟨w64 (v_t21 + 1), h, rfl, rfl⟩
            · have h := ite_f hc h
              refine cw_exit ?_
              refine ex_te ?_
              refine ex_te ?_
              refine ex_be ?_
              refine ex_kx ?_
              refine Says.kx (S' := []) (O' := []) (says_pick [] [] rfl rfl) ?_
              exact hK54 _ _ ⟨h, rfl, rfl⟩

theorem f39_fn (N : Nat) (v_n1 : Int) (r : Bool) (h : grow_Least N v_n1 = some r) : Fn Go.Proofs.Try.prog 39 [I v_n1] [] (B r) [] := by
  unfold grow_Least at h
  refine fn_intro [] fun39 rfl rfl (Nat.le_of_ble_eq_true rfl) rfl rfl (fun w G V => ?_)
  show Cw _ _ _ _ [(0, I v_n1)] []
  refine cw_seq fun K1 hK1 => ?_
  refine cw_region ?_
  refine nx_o (op_assign (Can.bool _ _)) rfl ?_
  refine nx_nil ?_
  refine Says.ex (S' := [(0, I v_n1)]) (O' := []) (says_pick [1] [] rfl rfl) ?_
  refine ex_kx (hK1 _ _ ?_)
  refine cw_seq fun K2 hK2 => ?_
  refine cw_region ?_
  refine nx_o (op_move (.tmp 0 rfl)) rfl ?_
  refine nx_o (op_geq (.tmp 0 rfl) (Can.int _ _ _)) rfl ?_
  refine nx_o (op_move (.tmp 0 rfl)) rfl ?_
  refine nx_g (opy_guard (cc := (decide (v_n1 ≥ 1))) (.plain 0 rfl) rfl rfl (fun hg => (op_move (.tmp 3 rfl)))) rfl ?_
  refine nx_g (opy_guard (cc := (decide (v_n1 ≥ 1))) (.plain 1 rfl) rfl rfl (fun hg => (op_leq (.cd 0 rfl hg) (Can.int _ _ _)))) rfl ?_
  refine nx_o (op_and (.tmp 2 rfl) (fun hp => (.cd 0 rfl hp))) rfl ?_
  refine nx_o (op_assign (.tmp 0 rfl)) rfl ?_
  refine nx_nil ?_
  refine Says.ex (S' := [(2, B ((decide (v_n1 ≥ 1)) && (decide (v_n1 ≤ 60))))]) (O' := []) (says_pick [0] [] rfl rfl) ?_
  refine ex_kx (hK2 _ _ ?_)
  refine cw_ret ?_
  cases h
  exact ex_done (.inl rfl) rfl (fun a w G V hs _ hS => res1 rfl (.tmp 0 rfl) a w G V hS)

theorem f83_fn (N : Nat) (v_l1 : List Sample) (r : Int) (h : grow_sum N v_l1 = some r) : Fn Go.Proofs.Try.prog 83 [SL 2 cSample v_l1] [] (I r) [] := by
  unfold grow_sum at h
  refine fn_intro [] fun83 rfl rfl (Nat.le_of_ble_eq_true rfl) rfl rfl (fun w G V => ?_)
  show Cw _ _ _ _ [(0, SL 2 cSample v_l1)] []
  refine cw_seq fun K1 hK1 => ?_
  refine cw_region ?_
  refine nx_o (op_assign (Can.int _ _ _)) rfl ?_
  refine nx_nil ?_
  refine Says.ex (S' := [(0, SL 2 cSample v_l1)]) (O' := []) (says_pick [1] [] rfl rfl) ?_
  refine ex_kx (hK1 _ _ ?_)
  refine cw_seq fun K2 hK2 => ?_
  refine cw_region ?_
  refine nx_o (op_assign (Can.int _ _ _)) rfl ?_
  refine nx_nil ?_
  refine ex_kx (hK2 _ _ ?_)
  refine cw_join (fun S O => ∃ (v_n9 : Int), grow_sum_j1 N v_n9 = some r ∧ S = [(3, I v_n9)] ∧ O = []) ?_ (fun K18 hK18 => ?_)
  · rintro S O ⟨v_n9, h, rfl, rfl⟩
    unfold grow_sum_j1 at h
    refine cw_seq fun K19 hK19 => ?_
    refine cw_region ?_
    refine nx_o (op_move (.tmp 0 rfl)) rfl ?_
    refine nx_o (op_assign (.tmp 0 rfl)) rfl ?_
    refine nx_nil ?_
    refine Says.ex (S' := [(2, I v_n9)]) (O' := []) (says_pick [0] [] rfl rfl) ?_
    refine ex_kx (hK19 _ _ ?_)
    refine cw_ret ?_
    cases h
    exact ex_done (.inl rfl) rfl (fun a w G V hs _ hS => res1 rfl (.tmp 0 rfl) a w G V hS)
  ·
    refine cw_seq fun K20 hK20 => ?_
    refine cw_region ?_
    refine nx_o (op_move (.tmp 1 rfl)) rfl ?_
    refine nx_o (op_len (.tmp 0 rfl) u22) rfl ?_
    refine nx_o (op_move (Can.int _ _ _)) rfl ?_
    refine nx_nil ?_
    refine Says.ex (S' := [(8, I 0), (7, I (v_l1.length : Int)), (6, SL 2 cSample v_l1), (3, I 0)]) (O' := []) (says_pick [0, 1, 2, 3] [] rfl rfl) ?_
    refine ex_kx (hK20 _ _ ?_)
    refine cw_block ?_
    refine Says.cw (S' := [(3, I 0), (6, SL 2 cSample v_l1), (7, I (v_l1.length : Int)), (8, I 0)]) (O' := []) (says_pick [3, 2, 1, 0] [] rfl rfl) ?_
    refine cw_loopJ (fun n S O => ∃ (v_n14 : Int) (v_t15 : Int), grow_sum_l1 N v_l1 n v_n14 v_t15 = some r ∧ S = [(3, I v_n14), (6, SL 2 cSample v_l1), (7, I (v_l1.length : Int)), (8, I v_t15)] ∧ O = []) ?_ ?_ N ⟨0, 0, h, rfl, rfl⟩
    · rintro S O ⟨v_n14, v_t15, h, -, -⟩
      simp [grow_sum_l1] at h
    · rintro n_1 S O ⟨v_n14, v_t15, h, rfl, rfl⟩ K29 hK29
      rw [grow_sum_l1] at h
      refine cw_seq fun K30 hK30 => ?_
      refine cw_region ?_
      refine nx_o (op_lss (.tmp 3 rfl) (.tmp 2 rfl)) rfl ?_
      refine nx_nil ?_
      refine ex_kx (hK30 _ _ ?_)
      refine cw_seq fun K31 hK31 => ?_
      refine cw_cond (b := (decide (v_t15 < (v_l1.length : Int)))) (.tmp 0 rfl) (fun hc => ?_) (fun hc => ?_)
      · have h := ite_t hc h
        refine cw_skip ?_
        refine ex_kx (hK31 _ _ ?_)
        refine cw_seq fun K32 hK32 => ?_
        refine cw_block ?_
        refine cw_seq fun K33 hK33 => ?_
        refine cw_region ?_
        obtain ⟨v_y16, hv_y16, h⟩ := bnd h
        refine nx_o (op_indexX hv_y16 (.tmp 2 rfl) (.tmp 4 rfl) u22 s25) rfl ?_
        refine nx_o (op_loadA (cSample v_y16) (.tmp 0 rfl) a25 s25 rfl) rfl ?_
        refine nx_op (op_alloc 106 (cSample (Sample.mk [] 0)) za25 zSample rfl) rfl ?_
        show Nx _ _ _ _ _ [(5, .ref 106), (11, .agg (cSample v_y16)), (10, .ptr (cSample v_y16)), (9, B (decide (v_t15 < (v_l1.length : Int)))), (3, I v_n14), (6, SL 2 cSample v_l1), (7, I (v_l1.length : Int)), (8, I v_t15)] [(106, .var 25 [SL 1 cI [], I 0])]
        refine nx_o0 (op_storeVA (its := (cSample v_y16)) (.tmp 0 rfl) 0 rfl (.agg (.tmp 1 rfl)) rfl s25) ?_
        show Nx _ _ _ _ _ [(5, .ref 106), (11, .agg (cSample v_y16)), (10, .ptr (cSample v_y16)), (9, B (decide (v_t15 < (v_l1.length : Int)))), (3, I v_n14), (6, SL 2 cSample v_l1), (7, I (v_l1.length : Int)), (8, I v_t15)] [(106, .var 25 [SL 1 cI v_y16.row, I v_y16.target])]
        refine nx_nil ?_
        refine Says.ex (S' := [(5, .ref 106), (3, I v_n14), (6, SL 2 cSample v_l1), (7, I (v_l1.length : Int)), (8, I v_t15)]) (O' := [(106, .var 25 [SL 1 cI v_y16.row, I v_y16.target])]) (says_pick [0, 4, 5, 6, 7] [0] rfl rfl) ?_
        refine ex_kx (hK33 _ _ ?_)
        refine cw_region ?_
        refine nx_o (op_move (.tmp 1 rfl)) rfl ?_
        refine nx_o (op_fieldVar (.tmp 1 rfl) 0 rfl o25_1) rfl ?_
        refine nx_o (op_loadV (.tmp 0 rfl) 0 rfl rfl a3) rfl ?_
        refine nx_o (op_add (.tmp 2 rfl) (.tmp 0 rfl)) rfl ?_
        refine nx_k [0, 1, 2, 3, 4, 6, 7, 8] (op_assign (.tmp 0 rfl)) rfl rfl ?_
        show Nx _ _ _ _ _ [(3, I (w64 (v_n14 + v_y16.target))), (15, I (w64 (v_n14 + v_y16.target))), (14, I v_y16.target), (13, .pt 106 1), (12, I v_n14), (5, .ref 106), (6, SL 2 cSample v_l1), (7, I (v_l1.length : Int)), (8, I v_t15)] [(106, .var 25 [SL 1 cI v_y16.row, I v_y16.target])]
        refine nx_nil ?_
        refine Says.ex (S' := [(3, I (w64 (v_n14 + v_y16.target))), (6, SL 2 cSample v_l1), (7, I (v_l1.length : Int)), (8, I v_t15)]) (O' := []) (says_pick [0, 6, 7, 8] [] rfl rfl) ?_
        refine ex_bn ?_
        refine ex_kx (hK32 _ _ ?_)
        refine cw_region ?_
        refine nx_o (op_add (.tmp 3 rfl) (Can.int _ _ _)) rfl ?_
        refine nx_k [0, 1, 2, 3] (op_move (.tmp 0 rfl)) rfl rfl ?_
        show Nx _ _ _ _ _ [(8, I (w64 (v_t15 + 1))), (16, I (w64 (v_t15 + 1))), (3, I (w64 (v_n14 + v_y16.target))), (6, SL 2 cSample v_l1), (7, I (v_l1.length : Int))] []
        refine nx_nil ?_
        refine Says.ex (S' := [(8, I (w64 (v_t15 + 1))), (3, I (w64 (v_n14 + v_y16.target))), (6, SL 2 cSample v_l1), (7, I (v_l1.length : Int))]) (O' := []) (says_pick [0, 2, 3, 4] [] rfl rfl) ?_
        refine ex_kx ?_
        refine Says.kx (S' := [(3, I (w64 (v_n14 + v_y16.target))), (6, SL 2 cSample v_l1), (7, I (v_l1.length : Int)), (8, I (w64 (v_t15 + 1)))]) (O' := []) (says_pick [1, 2, 3, 0] [] rfl rfl) ?_
        exact hK29 _ _ ⟨w64 (v_n14 + v_y16.target), w64 (v_t15 + 1), h, rfl, rfl⟩
      · have h := ite_f hc h
        refine cw_exit ?_
        refine ex_te ?_
        refine ex_te ?_
        refine ex_be ?_
        refine ex_kx ?_
        refine Says.kx (S' := [(3, I v_n14)]) (O' := []) (says_pick [1] [] rfl rfl) ?_
        exact hK18 _ _ ⟨v_n14, h, rfl, rfl⟩

theorem f84_fn (N : Nat) (v_l1 : List Sample) (v_feature2 : Int) (v_cut3 : Int) (r : (List Sample) × (List Sample)) (h : grow_part N v_l1 v_feature2 v_cut3 = some r) : Fn Go.Proofs.Try.prog 84 [SL 2 cSample v_l1, I v_feature2, I v_cut3] [] (.tup [SL 2 cSample r.1, SL 2 cSample r.2]) [] := by
  unfold grow_part at h
  refine fn_intro [] fun84 rfl rfl (Nat.le_of_ble_eq_true rfl) rfl rfl (fun w G V => ?_)
  show Cw _ _ _ _ [(0, SL 2 cSample v_l1), (1, I v_feature2), (2, I v_cut3)] []
  refine cw_seq fun K1 hK1 => ?_
  refine cw_region ?_
  refine nx_o (op_assign (Can.raw _ _)) rfl ?_
  refine nx_o (op_assign (Can.raw _ _)) rfl ?_
  refine nx_nil ?_
  refine ex_kx (hK1 _ _ ?_)
  refine cw_join (fun S O => ∃ (v_below22 : List Sample) (v_rest23 : List Sample), grow_part_j1 N v_below22 v_rest23 = some r ∧ S = [(6, .ref 103), (7, .ref 105)] ∧ O = [(103, .row 25 2 cSample v_below22), (105, .row 25 2 cSample v_rest23)]) ?_ (fun K20 hK20 => ?_)
  · rintro S O ⟨v_below22, v_rest23, h, rfl, rfl⟩
    unfold grow_part_j1 at h
    refine cw_seq fun K21 hK21 => ?_
    refine cw_region ?_
    refine nx_o (op_move (.tmp 0 rfl)) rfl ?_
    refine nx_o (op_move (.tmp 2 rfl)) rfl ?_
    refine nx_k [0, 1, 3] (op_assign (.tmp 1 rfl)) rfl rfl ?_
    show Nx _ _ _ _ _ [(6, .ref 103), (33, .ref 105), (32, .ref 103), (7, .ref 105)] [(103, .row 25 2 cSample v_below22), (105, .row 25 2 cSample v_rest23)]
    refine nx_k [0, 1, 2] (op_assign (.tmp 1 rfl)) rfl rfl ?_
    show Nx _ _ _ _ _ [(7, .ref 105), (6, .ref 103), (33, .ref 105), (32, .ref 103)] [(103, .row 25 2 cSample v_below22), (105, .row 25 2 cSample v_rest23)]
    refine nx_nil ?_
    refine Says.ex (S' := [(7, .ref 105), (6, .ref 103)]) (O' := [(103, .row 25 2 cSample v_below22), (105, .row 25 2 cSample v_rest23)]) (says_pick [0, 1] [0, 1] rfl rfl) ?_
    refine ex_kx (hK21 _ _ ?_)
    refine cw_ret ?_
    refine Says.ex (says_freezeRow (k := 103) 0 rfl rfl (fun _ => rfl) rfl rfl) ?_
    show Ex _ _ _ [(7, .ref 105), (6, SL 2 cSample v_below22)] [(105, .row 25 2 cSample v_rest23)]
    refine Says.ex (says_freezeRow (k := 105) 0 rfl rfl (fun _ => rfl) rfl rfl) ?_
    show Ex _ _ _ [(7, SL 2 cSample v_rest23), (6, SL 2 cSample v_below22)] []
    cases h
    refine Says.ex (S' := [(6, SL 2 cSample v_below22), (7, SL 2 cSample v_rest23)]) (O' := []) (says_pick [1, 0] [] rfl rfl) ?_
    exact ex_done (.inl rfl) rfl (fun a w G V hs _ hS => resM rfl (.tmp (.tmp 0 rfl) (.tmp (.tmp 1 rfl) .nil)) a w G V hs hS)
  ·
    refine cw_seq fun K22 hK22 => ?_
    refine cw_region ?_
    refine nx_o (op_move (.tmp 2 rfl)) rfl ?_
    refine nx_o (op_len (.tmp 0 rfl) u22) rfl ?_
    refine nx_o (op_move (Can.int _ _ _)) rfl ?_
    refine nx_nil ?_
    refine Says.ex (S' := [(12, I 0), (11, I (v_l1.length : Int)), (10, SL 2 cSample v_l1), (7, .raw (.slice none 0 0)), (6, .raw (.slice none 0 0)), (1, I v_feature2), (2, I v_cut3)]) (O' := []) (says_pick [0, 1, 2, 3, 4, 6, 7] [] rfl rfl) ?_
    refine ex_kx (hK22 _ _ ?_)
    refine cw_block ?_
    refine Says.cw (says_ownNil 6 114 25 2 cSample 4 rfl rfl rfl rfl) ?_
    show Cw _ _ _ _ [(12, I 0), (11, I (v_l1.length : Int)), (10, SL 2 cSample v_l1), (7, .raw (.slice none 0 0)), (6, .ref 114), (1, I v_feature2), (2, I v_cut3)] [(114, .row 25 2 cSample [])]
    refine Says.cw (says_ownNil 7 116 25 2 cSample 3 rfl rfl rfl rfl) ?_
    show Cw _ _ _ _ [(12, I 0), (11, I (v_l1.length : Int)), (10, SL 2 cSample v_l1), (7, .ref 116), (6, .ref 114), (1, I v_feature2), (2, I v_cut3)] [(116, .row 25 2 cSample []), (114, .row 25 2 cSample [])]
    refine Says.cw (S' := [(1, I v_feature2), (2, I v_cut3), (6, .ref 114), (7, .ref 116), (10, SL 2 cSample v_l1), (11, I (v_l1.length : Int)), (12, I 0)]) (O' := [(116, .row 25 2 cSample []), (114, .row 25 2 cSample [])]) (says_pick [5, 6, 4, 3, 2, 1, 0] [0, 1] rfl rfl) ?_
    refine Says.cw (S' := [(1, I v_feature2), (2, I v_cut3), (6, .ref 114), (7, .ref 116), (10, SL 2 cSample v_l1), (11, I (v_l1.length : Int)), (12, I 0)]) (O' := [(114, .row 25 2 cSample []), (116, .row 25 2 cSample [])]) (says_pick [0, 1, 2, 3, 4, 5, 6] [1, 0] rfl rfl) ?_
    refine cw_loopJ (fun n S O => ∃ (v_below35 : List Sample) (v_rest36 : List Sample) (v_t37 : Int), grow_part_l1 N v_l1 v_feature2 v_cut3 n v_below35 v_rest36 v_t37 = some r ∧ S = [(1, I v_feature2), (2, I v_cut3), (6, .ref 114), (7, .ref 116), (10, SL 2 cSample v_l1), (11, I (v_l1.length : Int)), (12, I v_t37)] ∧ O = [(114, .row 25 2 cSample v_below35), (116, .row 25 2 cSample v_rest36)]) ?_ ?_ N ⟨[], [], 0, h, rfl, rfl⟩
    · rintro S O ⟨v_below35, v_rest36, v_t37, h, -, -⟩
      simp [grow_part_l1] at h
    · rintro n_1 S O ⟨v_below35, v_rest36, v_t37, h, rfl, rfl⟩ K33 hK33
      rw [grow_part_l1] at h
      refine cw_seq fun K34 hK34 => ?_
      refine cw_region ?_
      refine nx_o (op_lss (.tmp 6 rfl) (.tmp 5 rfl)) rfl ?_
      refine nx_nil ?_
      refine ex_kx (hK34 _ _ ?_)
      refine cw_seq fun K35 hK35 => ?_
      refine cw_cond (b := (decide (v_t37 < (v_l1.length : Int)))) (.tmp 0 rfl) (fun hc => ?_) (fun hc => ?_)
      · have h := ite_t hc h
        refine cw_skip ?_
        refine ex_kx (hK35 _ _ ?_)
        refine cw_seq fun K36 hK36 => ?_
        refine cw_block ?_
        refine cw_seq fun K37 hK37 => ?_
        refine cw_region ?_
        obtain ⟨v_y38, hv_y38, h⟩ := bnd h
        refine nx_o (op_indexX hv_y38 (.tmp 5 rfl) (.tmp 7 rfl) u22 s25) rfl ?_
        refine nx_o (op_loadA (cSample v_y38) (.tmp 0 rfl) a25 s25 rfl) rfl ?_
        refine nx_op (op_alloc 120 (cSample (Sample.mk [] 0)) za25 zSample rfl) rfl ?_
        show Nx _ _ _ _ _ [(9, .ref 120), (15, .agg (cSample v_y38)), (14, .ptr (cSample v_y38)), (13, B (decide (v_t37 < (v_l1.length : Int)))), (1, I v_feature2), (2, I v_cut3), (6, .ref 114), (7, .ref 116), (10, SL 2 cSample v_l1), (11, I (v_l1.length : Int)), (12, I v_t37)] [(120, .var 25 [SL 1 cI [], I 0]), (114, .row 25 2 cSample v_below35), (116, .row 25 2 cSample v_rest36)]
        refine nx_o0 (op_storeVA (its := (cSample v_y38)) (.tmp 0 rfl) 0 rfl (.agg (.tmp 1 rfl)) rfl s25) ?_
        show Nx _ _ _ _ _ [(9, .ref 120), (15, .agg (cSample v_y38)), (14, .ptr (cSample v_y38)), (13, B (decide (v_t37 < (v_l1.length : Int)))), (1, I v_feature2), (2, I v_cut3), (6, .ref 114), (7, .ref 116), (10, SL 2 cSample v_l1), (11, I (v_l1.length : Int)), (12, I v_t37)] [(120, .var 25 [SL 1 cI v_y38.row, I v_y38.target]), (114, .row 25 2 cSample v_below35), (116, .row 25 2 cSample v_rest36)]
        refine nx_nil ?_
        refine Says.ex (S' := [(9, .ref 120), (1, I v_feature2), (2, I v_cut3), (6, .ref 114), (7, .ref 116), (10, SL 2 cSample v_l1), (11, I (v_l1.length : Int)), (12, I v_t37)]) (O' := [(120, .var 25 [SL 1 cI v_y38.row, I v_y38.target]), (114, .row 25 2 cSample v_below35), (116, .row 25 2 cSample v_rest36)]) (says_pick [0, 4, 5, 6, 7, 8, 9, 10] [0, 1, 2] rfl rfl) ?_
        refine ex_kx (hK37 _ _ ?_)
        refine cw_seq fun K38 hK38 => ?_
        refine cw_region ?_
        refine nx_o (op_fieldVar (.tmp 0 rfl) 0 rfl o25_0) rfl ?_
        refine nx_o (op_loadV (.tmp 0 rfl) 0 rfl rfl a23) rfl ?_
        refine nx_o (op_move (.tmp 3 rfl)) rfl ?_
        obtain ⟨v_y39, hv_y39, h⟩ := bnd h
        refine nx_o (op_indexX hv_y39 (.tmp 1 rfl) (.tmp 0 rfl) u23 s3) rfl ?_
        refine nx_o (op_load1 (.tmp 0 rfl) a3) rfl ?_
        refine nx_o (op_move (.tmp 7 rfl)) rfl ?_
        refine nx_o (op_lss (.tmp 1 rfl) (.tmp 0 rfl)) rfl ?_
        refine nx_nil ?_
        refine Says.ex (S' := [(22, B (decide (v_y39 < v_cut3))), (9, .ref 120), (1, I v_feature2), (2, I v_cut3), (6, .ref 114), (7, .ref 116), (10, SL 2 cSample v_l1), (11, I (v_l1.length : Int)), (12, I v_t37)]) (O' := [(120, .var 25 [SL 1 cI v_y38.row, I v_y38.target]), (114, .row 25 2 cSample v_below35), (116, .row 25 2 cSample v_rest36)]) (says_pick [0, 7, 8, 9, 10, 11, 12, 13, 14] [0, 1, 2] rfl rfl) ?_
        refine ex_kx (hK38 _ _ ?_)
        refine cw_cond (b := (decide (v_y39 < v_cut3))) (.tmp 0 rfl) (fun hc => ?_) (fun hc => ?_)
        · have h := ite_t hc h
          refine cw_region ?_
          refine nx_o (op_move (.tmp 4 rfl)) rfl ?_
          refine nx_o (op_loadVA (its := (cSample v_y38)) (.tmp 2 rfl) 0 rfl a25 s25) rfl ?_
          refine nx_o (op_buildSlice (cSample (Sample.mk [] 0)) (n := 2) (c := cSample) ([v_y38] : List Sample) bl22 zSample (by decide) (by decide) (.cons (.agg (.tmp 0 rfl)) rfl (Nat.le_of_ble_eq_true rfl) .nil) rfl rfl (fun _ => rfl)) rfl ?_
          obtain ⟨v_t40, hv_t40, h⟩ := bnd h
          refine nx_k [0, 1, 3, 4, 5, 6, 8, 9, 10, 11] (op_appendX hv_t40 121 (.tmp 2 rfl) 1 rfl (.tmp 0 rfl) u22 i25 (by decide) (by decide) (fun _ => rfl) rfl rfl) rfl rfl ?_
          show Nx _ _ _ _ _ [(26, .ref 121), (25, SL 2 cSample [v_y38]), (24, .agg (cSample v_y38)), (22, B (decide (v_y39 < v_cut3))), (9, .ref 120), (1, I v_feature2), (2, I v_cut3), (7, .ref 116), (10, SL 2 cSample v_l1), (11, I (v_l1.length : Int)), (12, I v_t37)] [(121, .row 25 2 cSample v_t40), (120, .var 25 [SL 1 cI v_y38.row, I v_y38.target]), (116, .row 25 2 cSample v_rest36)]
          refine nx_o (op_assign (.tmp 0 rfl)) rfl ?_
          refine nx_nil ?_
          refine Says.ex (S' := [(6, .ref 121), (1, I v_feature2), (2, I v_cut3), (7, .ref 116), (10, SL 2 cSample v_l1), (11, I (v_l1.length : Int)), (12, I v_t37)]) (O' := [(121, .row 25 2 cSample v_t40), (116, .row 25 2 cSample v_rest36)]) (says_pick [0, 6, 7, 8, 9, 10, 11] [0, 2] rfl rfl) ?_
          refine ex_bn ?_
          refine ex_kx (hK36 _ _ ?_)
          refine cw_region ?_
          refine nx_o (op_add (.tmp 6 rfl) (Can.int _ _ _)) rfl ?_
          refine nx_k [0, 1, 2, 3, 4, 5, 6] (op_move (.tmp 0 rfl)) rfl rfl ?_
          show Nx _ _ _ _ _ [(12, I (w64 (v_t37 + 1))), (31, I (w64 (v_t37 + 1))), (6, .ref 121), (1, I v_feature2), (2, I v_cut3), (7, .ref 116), (10, SL 2 cSample v_l1), (11, I (v_l1.length : Int))] [(121, .row 25 2 cSample v_t40), (116, .row 25 2 cSample v_rest36)]
          refine nx_nil ?_
          refine Says.ex (S' := [(12, I (w64 (v_t37 + 1))), (6, .ref 121), (1, I v_feature2), (2, I v_cut3), (7, .ref 116), (10, SL 2 cSample v_l1), (11, I (v_l1.length : Int))]) (O' := [(121, .row 25 2 cSample v_t40), (116, .row 25 2 cSample v_rest36)]) (says_pick [0, 2, 3, 4, 5, 6, 7] [0, 1] rfl rfl) ?_
          refine ex_kx ?_
          refine Says.kx (S' := [(1, I v_feature2), (2, I v_cut3), (6, .ref 121), (7, .ref 116), (10, SL 2 cSample v_l1), (11, I (v_l1.length : Int)), (12, I (w64 (v_t37 + 1)))]) (O' := [(121, .row 25 2 cSample v_t40), (116, .row 25 2 cSample v_rest36)]) (says_pick [2, 3, 1, 4, 5, 6, 0] [0, 1] rfl rfl) ?_
          refine Says.kx (says_swap 121 114 rfl rfl rfl rfl) ?_
          exact hK33 _ _ ⟨v_t40, v_rest36, w64 (v_t37 + 1), h, rfl, rfl⟩
        · have h := ite_f hc h
          refine cw_region ?_
          refine nx_o (op_move (.tmp 5 rfl)) rfl ?_
          refine nx_o (op_loadVA (its := (cSample v_y38)) (.tmp 2 rfl) 0 rfl a25 s25) rfl ?_
          refine nx_o (op_buildSlice (cSample (Sample.mk [] 0)) (n := 2) (c := cSample) ([v_y38] : List Sample) bl22 zSample (by decide) (by decide) (.cons (.agg (.tmp 0 rfl)) rfl (Nat.le_of_ble_eq_true rfl) .nil) rfl rfl (fun _ => rfl)) rfl ?_
          obtain ⟨v_t41, hv_t41, h⟩ := bnd h
          refine nx_k [0, 1, 3, 4, 5, 6, 7, 9, 10, 11] (op_appendX hv_t41 122 (.tmp 2 rfl) 2 rfl (.tmp 0 rfl) u22 i25 (by decide) (by decide) (fun _ => rfl) rfl rfl) rfl rfl ?_
          show Nx _ _ _ _ _ [(30, .ref 122), (29, SL 2 cSample [v_y38]), (28, .agg (cSample v_y38)), (22, B (decide (v_y39 < v_cut3))), (9, .ref 120), (1, I v_feature2), (2, I v_cut3), (6, .ref 114), (10, SL 2 cSample v_l1), (11, I (v_l1.length : Int)), (12, I v_t37)] [(122, .row 25 2 cSample v_t41), (120, .var 25 [SL 1 cI v_y38.row, I v_y38.target]), (114, .row 25 2 cSample v_below35)]
          refine nx_o (op_assign (.tmp 0 rfl)) rfl ?_
          refine nx_nil ?_
          refine Says.ex (S' := [(7, .ref 122), (1, I v_feature2), (2, I v_cut3), (6, .ref 114), (10, SL 2 cSample v_l1), (11, I (v_l1.length : Int)), (12, I v_t37)]) (O' := [(122, .row 25 2 cSample v_t41), (114, .row 25 2 cSample v_below35)]) (says_pick [0, 6, 7, 8, 9, 10, 11] [0, 2] rfl rfl) ?_
          refine ex_bn ?_
          refine ex_kx (hK36 _ _ ?_)
          refine cw_region ?_
          refine nx_o (op_add (.tmp 6 rfl) (Can.int _ _ _)) rfl ?_
          refine nx_k [0, 1, 2, 3, 4, 5, 6] (op_move (.tmp 0 rfl)) rfl rfl ?_
          show Nx _ _ _ _ _ [(12, I (w64 (v_t37 + 1))), (31, I (w64 (v_t37 + 1))), (7, .ref 122), (1, I v_feature2), (2, I v_cut3), (6, .ref 114), (10, SL 2 cSample v_l1), (11, I (v_l1.length : Int))] [(122, .row 25 2 cSample v_t41), (114, .row 25 2 cSample v_below35)]
          refine nx_nil ?_
          refine Says.ex (S' := [(12, I (w64 (v_t37 + 1))), (7, .ref 122), (1, I v_feature2), (2, I v_cut3), (6, .ref 114), (10, SL 2 cSample v_l1), (11, I (v_l1.length : Int))]) (O' := [(122, .row 25 2 cSample v_t41), (114, .row 25 2 cSample v_below35)]) (says_pick [0, 2, 3, 4, 5, 6, 7] [0, 1] rfl rfl) ?_
          refine ex_kx ?_
          refine Says.kx (S' := [(1, I v_feature2), (2, I v_cut3), (6, .ref 114), (7, .ref 122), (10, SL 2 cSample v_l1), (11, I (v_l1.length : Int)), (12, I (w64 (v_t37 + 1)))]) (O' := [(122, .row 25 2 cSample v_t41), (114, .row 25 2 cSample v_below35)]) (says_pick [2, 3, 4, 1, 5, 6, 0] [0, 1] rfl rfl) ?_
          refine Says.kx (says_swap 122 116 rfl rfl rfl rfl) ?_
          refine Says.kx (S' := [(1, I v_feature2), (2, I v_cut3), (6, .ref 114), (7, .ref 116), (10, SL 2 cSample v_l1), (11, I (v_l1.length : Int)), (12, I (w64 (v_t37 + 1)))]) (O' := [(114, .row 25 2 cSample v_below35), (116, .row 25 2 cSample v_t41)]) (says_pick [0, 1, 2, 3, 4, 5, 6] [1, 0] rfl rfl) ?_
          exact hK33 _ _ ⟨v_below35, v_t41, w64 (v_t37 + 1), h, rfl, rfl⟩
      · have h := ite_f hc h
        refine cw_exit ?_
        refine ex_te ?_
        refine ex_te ?_
        refine ex_be ?_
        refine ex_kx ?_
        refine Says.kx (S' := [(6, .ref 114), (7, .ref 116)]) (O' := [(114, .row 25 2 cSample v_below35), (116, .row 25 2 cSample v_rest36)]) (says_pick [3, 4] [0, 1] rfl rfl) ?_
        refine Says.kx (says_swap 114 103 rfl rfl rfl rfl) ?_
        refine Says.kx (says_swap 116 105 rfl rfl rfl rfl) ?_
        exact hK20 _ _ ⟨v_below35, v_rest36, h, rfl, rfl⟩

end Go.Dl
