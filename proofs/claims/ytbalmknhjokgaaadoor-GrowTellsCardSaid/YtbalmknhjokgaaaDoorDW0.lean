/- Printed by wip/gen: the calls compute it. -/
import Derived.Test.YtbalmknhjokgaaaDoorDT
import Derived.Test.YtbalmknhjokgaaaDoorDS
set_option linter.unusedVariables false
set_option maxRecDepth 4000
set_option maxHeartbeats 2000000
namespace Go.Dl
open Go

theorem f122_fn (N : Nat) (v_n1 : Int) (r : Bool) (h : orchref1_Cell N v_n1 = some r) : Fn Go.Proofs.Tryd.prog 122 [I v_n1] [] (B r) [] := by
  unfold orchref1_Cell at h
  refine fn_intro [] fun122 rfl rfl (Nat.le_of_ble_eq_true rfl) rfl rfl (fun w G V => ?_)
  show Cw _ _ _ _ [(0, I v_n1)] []
  refine cw_seq fun K1 hK1 => ?_
  refine cw_region ?_
  refine nx_o (op_assign (Can.bool _ _)) rfl ?_
  refine nx_nil ?_
  refine Says.ex (S' := [(0, I v_n1)]) (O' := []) (says_pick [1] [] rfl rfl) ?_
  refine ex_kx (hK1 _ _ ?_)
  refine cw_seq fun K2 hK2 => ?_
  refine cw_region ?_
  refine nx_o (op_move (.tmp 0 rfl)) rfl ?_
  refine nx_o (op_geq (.tmp 0 rfl) (Can.int _ _ _)) rfl ?_
  refine nx_o (op_move (.tmp 0 rfl)) rfl ?_
  refine nx_g (opy_guard (cc := (decide (v_n1 ≥ (-1000000)))) (.plain 0 rfl) rfl rfl (fun hg => (op_move (.tmp 3 rfl)))) rfl ?_
  refine nx_g (opy_guard (cc := (decide (v_n1 ≥ (-1000000)))) (.plain 1 rfl) rfl rfl (fun hg => (op_leq (.cd 0 rfl hg) (Can.int _ _ _)))) rfl ?_
  refine nx_o (op_and (.tmp 2 rfl) (fun hp => (.cd 0 rfl hp))) rfl ?_
  refine nx_o (op_assign (.tmp 0 rfl)) rfl ?_
  refine nx_nil ?_
  refine Says.ex (S' := [(2, B ((decide (v_n1 ≥ (-1000000))) && (decide (v_n1 ≤ 1000000))))]) (O' := []) (says_pick [0] [] rfl rfl) ?_
  refine ex_kx (hK2 _ _ ?_)
  refine cw_ret ?_
  cases h
  exact ex_done (.inl rfl) rfl (fun a w G V hs _ hS => res1 rfl (.tmp 0 rfl) a w G V hS)

theorem f124_fn (N : Nat) (v_c1 : Int) (r : Bool) (h : orchref1_none N v_c1 = some r) : Fn Go.Proofs.Tryd.prog 124 [I v_c1] [] (B r) [] := by
  unfold orchref1_none at h
  refine fn_intro [] fun124 rfl rfl (Nat.le_of_ble_eq_true rfl) rfl rfl (fun w G V => ?_)
  show Cw _ _ _ _ [(0, I v_c1)] []
  refine cw_seq fun K1 hK1 => ?_
  refine cw_region ?_
  refine nx_o (op_assign (Can.bool _ _)) rfl ?_
  refine nx_nil ?_
  refine Says.ex (S' := [(0, I v_c1)]) (O' := []) (says_pick [1] [] rfl rfl) ?_
  refine ex_kx (hK1 _ _ ?_)
  refine cw_seq fun K2 hK2 => ?_
  refine cw_region ?_
  refine nx_o (op_move (.tmp 0 rfl)) rfl ?_
  refine nx_o (op_eql (.tmp 0 rfl) (Can.int _ _ _)) rfl ?_
  refine nx_o (op_assign (.tmp 0 rfl)) rfl ?_
  refine nx_nil ?_
  refine Says.ex (S' := [(2, B (v_c1 == (-1125899906842624)))]) (O' := []) (says_pick [0] [] rfl rfl) ?_
  refine ex_kx (hK2 _ _ ?_)
  refine cw_ret ?_
  cases h
  exact ex_done (.inl rfl) rfl (fun a w G V hs _ hS => res1 rfl (.tmp 0 rfl) a w G V hS)

theorem f70_fn (N : Nat) (v_row1 : List Int) (r : Int) (h : orchref1_Row N v_row1 = some r) : Fn Go.Proofs.Tryd.prog 70 [SL 1 cI v_row1] [] (I r) [] := by
  unfold orchref1_Row at h
  refine fn_intro [] fun70 rfl rfl (Nat.le_of_ble_eq_true rfl) rfl rfl (fun w G V => ?_)
  show Cw _ _ _ _ [(0, SL 1 cI v_row1)] []
  refine cw_seq fun K1 hK1 => ?_
  refine cw_region ?_
  refine nx_o (op_assign (Can.int _ _ _)) rfl ?_
  refine nx_nil ?_
  refine Says.ex (S' := [(0, SL 1 cI v_row1)]) (O' := []) (says_pick [1] [] rfl rfl) ?_
  refine ex_kx (hK1 _ _ ?_)
  refine cw_seq fun K2 hK2 => ?_
  refine cw_seq fun K3 hK3 => ?_
  refine cw_region ?_
  refine nx_o (op_move (.tmp 0 rfl)) rfl ?_
  refine nx_o (op_len (.tmp 0 rfl) u22) rfl ?_
  refine nx_o (op_gtr (.tmp 0 rfl) (Can.int _ _ _)) rfl ?_
  refine nx_nil ?_
  refine Says.ex (S' := [(8, B (decide ((v_row1.length : Int) > 8))), (0, SL 1 cI v_row1)]) (O' := []) (says_pick [0, 3] [] rfl rfl) ?_
  refine ex_kx (hK3 _ _ ?_)
  refine cw_cond (b := (decide ((v_row1.length : Int) > 8))) (.tmp 0 rfl) (fun hc => ?_) (fun hc => ?_)
  · have h := ite_t hc h
    refine cw_seq fun K4 hK4 => ?_
    refine cw_region ?_
    refine nx_o (op_assign (Can.int _ _ _)) rfl ?_
    refine nx_nil ?_
    refine Says.ex (S' := [(2, I 4)]) (O' := []) (says_pick [0] [] rfl rfl) ?_
    refine ex_kx (hK4 _ _ ?_)
    refine cw_ret ?_
    refine ex_tr ?_
    cases h
    exact ex_done (.inl rfl) rfl (fun a w G V hs _ hS => res1 rfl (.tmp 0 rfl) a w G V hS)
  · have h := ite_f hc h
    refine cw_skip ?_
    refine ex_kx (hK2 _ _ ?_)
    refine cw_join (fun S O => orchref1_Row_j1 N = some r ∧ S = [] ∧ O = []) ?_ (fun K29 hK29 => ?_)
    · rintro S O ⟨h, rfl, rfl⟩
      unfold orchref1_Row_j1 at h
      refine cw_seq fun K30 hK30 => ?_
      refine cw_region ?_
      refine nx_o (op_assign (Can.int _ _ _)) rfl ?_
      refine nx_nil ?_
      refine ex_kx (hK30 _ _ ?_)
      refine cw_ret ?_
      cases h
      exact ex_done (.inl rfl) rfl (fun a w G V hs _ hS => res1 rfl (.tmp 0 rfl) a w G V hS)
    ·
      refine cw_seq fun K31 hK31 => ?_
      refine cw_region ?_
      refine nx_o (op_assign (Can.int _ _ _)) rfl ?_
      refine nx_nil ?_
      refine Says.ex (S' := [(3, I 0), (0, SL 1 cI v_row1)]) (O' := []) (says_pick [0, 2] [] rfl rfl) ?_
      refine ex_kx (hK31 _ _ ?_)
      refine cw_block ?_
      refine Says.cw (S' := [(0, SL 1 cI v_row1), (3, I 0)]) (O' := []) (says_pick [1, 0] [] rfl rfl) ?_
      refine cw_loopJ (fun n S O => ∃ (v_i25 : Int), orchref1_Row_l1 N v_row1 n v_i25 = some r ∧ S = [(0, SL 1 cI v_row1), (3, I v_i25)] ∧ O = []) ?_ ?_ N ⟨0, h, rfl, rfl⟩
      · rintro S O ⟨v_i25, h, -, -⟩
        simp [orchref1_Row_l1] at h
      · rintro n_1 S O ⟨v_i25, h, rfl, rfl⟩ K46 hK46
        rw [orchref1_Row_l1] at h
        refine cw_seq fun K47 hK47 => ?_
        refine cw_seq fun K48 hK48 => ?_
        refine cw_region ?_
        refine nx_o (op_move (.tmp 1 rfl)) rfl ?_
        refine nx_o (op_move (.tmp 1 rfl)) rfl ?_
        refine nx_o (op_len (.tmp 0 rfl) u22) rfl ?_
        refine nx_o (op_lss (.tmp 2 rfl) (.tmp 0 rfl)) rfl ?_
        refine nx_nil ?_
        refine Says.ex (S' := [(12, B (decide (v_i25 < (v_row1.length : Int)))), (0, SL 1 cI v_row1), (3, I v_i25)]) (O' := []) (says_pick [0, 4, 5] [] rfl rfl) ?_
        refine ex_kx (hK48 _ _ ?_)
        refine cw_cond (b := (decide (v_i25 < (v_row1.length : Int)))) (.tmp 0 rfl) (fun hc => ?_) (fun hc => ?_)
        · have h := ite_t hc h
          refine cw_skip ?_
          refine ex_kx (hK47 _ _ ?_)
          refine cw_seq fun K49 hK49 => ?_
          refine cw_block ?_
          refine cw_seq fun K50 hK50 => ?_
          refine cw_region ?_
          refine nx_o (op_move (.tmp 1 rfl)) rfl ?_
          refine nx_o (op_move (.tmp 3 rfl)) rfl ?_
          obtain ⟨v_y26, hv_y26, h⟩ := bnd h
          refine nx_o (op_indexX hv_y26 (.tmp 1 rfl) (.tmp 0 rfl) u22 s3) rfl ?_
          refine nx_o (op_load1 (.tmp 0 rfl) a3) rfl ?_
          obtain ⟨v_r27, hv_r27, h⟩ := bnd h
          refine nx_o (op_call0 (show Fn Go.Proofs.Tryd.prog 122 [I v_y26] [] (B v_r27) [] from (f122_fn N v_y26 _ hv_r27)) c122 (.cons (.tmp 0 rfl) .nil)) rfl ?_
          refine nx_o (op_assign (.tmp 0 rfl)) rfl ?_
          refine nx_nil ?_
          refine Says.ex (S' := [(4, B v_r27), (0, SL 1 cI v_row1), (3, I v_i25)]) (O' := []) (says_pick [0, 7, 8] [] rfl rfl) ?_
          refine ex_kx (hK50 _ _ ?_)
          refine cw_seq fun K51 hK51 => ?_
          refine cw_region ?_
          refine nx_o (op_move (.tmp 1 rfl)) rfl ?_
          refine nx_o (op_move (.tmp 3 rfl)) rfl ?_
          obtain ⟨v_y28, hv_y28, h⟩ := bnd h
          refine nx_o (op_indexX hv_y28 (.tmp 1 rfl) (.tmp 0 rfl) u22 s3) rfl ?_
          refine nx_o (op_load1 (.tmp 0 rfl) a3) rfl ?_
          obtain ⟨v_r29, hv_r29, h⟩ := bnd h
          refine nx_o (op_call0 (show Fn Go.Proofs.Tryd.prog 124 [I v_y28] [] (B v_r29) [] from (f124_fn N v_y28 _ hv_r29)) c124 (.cons (.tmp 0 rfl) .nil)) rfl ?_
          refine nx_o (op_assign (.tmp 0 rfl)) rfl ?_
          refine nx_nil ?_
          refine Says.ex (S' := [(5, B v_r29), (4, B v_r27), (0, SL 1 cI v_row1), (3, I v_i25)]) (O' := []) (says_pick [0, 6, 7, 8] [] rfl rfl) ?_
          refine ex_kx (hK51 _ _ ?_)
          refine cw_seq fun K52 hK52 => ?_
          refine cw_region ?_
          refine nx_o (op_move (.tmp 1 rfl)) rfl ?_
          refine nx_o (op_not (.tmp 0 rfl)) rfl ?_
          refine nx_o (op_move (.tmp 0 rfl)) rfl ?_
          refine nx_g (opy_guard (cc := (!v_r27)) (.plain 0 rfl) rfl rfl (fun hg => (op_move (.tmp 3 rfl)))) rfl ?_
          refine nx_g (opy_guard (cc := (!v_r27)) (.plain 1 rfl) rfl rfl (fun hg => (op_not (.cd 0 rfl hg)))) rfl ?_
          refine nx_o (op_and (.tmp 2 rfl) (fun hp => (.cd 0 rfl hp))) rfl ?_
          refine nx_nil ?_
          refine Says.ex (S' := [(30, B ((!v_r27) && (!v_r29))), (0, SL 1 cI v_row1), (3, I v_i25)]) (O' := []) (says_pick [0, 8, 9] [] rfl rfl) ?_
          refine ex_kx (hK52 _ _ ?_)
          refine cw_cond (b := ((!v_r27) && (!v_r29))) (.tmp 0 rfl) (fun hc => ?_) (fun hc => ?_)
          · have h := ite_t hc h
            refine cw_seq fun K53 hK53 => ?_
            refine cw_region ?_
            refine nx_o (op_assign (Can.int _ _ _)) rfl ?_
            refine nx_nil ?_
            refine Says.ex (S' := [(2, I 1)]) (O' := []) (says_pick [0] [] rfl rfl) ?_
            refine ex_kx (hK53 _ _ ?_)
            refine cw_ret ?_
            refine ex_br ?_
            refine ex_tr ?_
            refine ex_tr ?_
            refine ex_br ?_
            refine ex_tr ?_
            cases h
            exact ex_done (.inl rfl) rfl (fun a w G V hs _ hS => res1 rfl (.tmp 0 rfl) a w G V hS)
          · have h := ite_f hc h
            refine cw_skip ?_
            refine ex_bn ?_
            refine ex_kx (hK49 _ _ ?_)
            refine cw_region ?_
            refine nx_o (op_move (.tmp 2 rfl)) rfl ?_
            refine nx_o (op_add (.tmp 0 rfl) (Can.int _ _ _)) rfl ?_
            refine nx_k [0, 1, 2, 3] (op_assign (.tmp 0 rfl)) rfl rfl ?_
            show Nx _ _ _ _ _ [(3, I (w64 (v_i25 + 1))), (14, I (w64 (v_i25 + 1))), (13, I v_i25), (30, B ((!v_r27) && (!v_r29))), (0, SL 1 cI v_row1)] []
            refine nx_nil ?_
            refine Says.ex (S' := [(3, I (w64 (v_i25 + 1))), (0, SL 1 cI v_row1)]) (O' := []) (says_pick [0, 4] [] rfl rfl) ?_
            refine ex_kx ?_
            refine Says.kx (S' := [(0, SL 1 cI v_row1), (3, I (w64 (v_i25 + 1)))]) (O' := []) (says_pick [1, 0] [] rfl rfl) ?_
            exact hK46 _ _ ⟨w64 (v_i25 + 1), h, rfl, rfl⟩
        · have h := ite_f hc h
          refine cw_exit ?_
          refine ex_te ?_
          refine ex_te ?_
          refine ex_be ?_
          refine ex_kx ?_
          refine Says.kx (S' := []) (O' := []) (says_pick [] [] rfl rfl) ?_
          exact hK29 _ _ ⟨h, rfl, rfl⟩

theorem f41_fn (N : Nat) (v_a1 : List Sample) (v_a2 : Int) (r : Int × Int) (h : orchref2_Samples N v_a1 v_a2 = some r) : Fn Go.Proofs.Tryd.prog 41 [SL 2 cSample v_a1, I v_a2] [] (.tup [I r.1, I r.2]) [] := by
  unfold orchref2_Samples at h
  refine fn_intro [] fun41 rfl rfl (Nat.le_of_ble_eq_true rfl) rfl rfl (fun w G V => ?_)
  show Cw _ _ _ _ [(0, SL 2 cSample v_a1), (1, I v_a2)] []
  refine cw_seq fun K1 hK1 => ?_
  refine cw_region ?_
  refine nx_o (op_assign (Can.int _ _ _)) rfl ?_
  refine nx_o (op_assign (Can.int _ _ _)) rfl ?_
  refine nx_nil ?_
  refine Says.ex (S' := [(0, SL 2 cSample v_a1), (1, I v_a2)]) (O' := []) (says_pick [2, 3] [] rfl rfl) ?_
  refine ex_kx (hK1 _ _ ?_)
  refine cw_seq fun K2 hK2 => ?_
  refine cw_seq fun K3 hK3 => ?_
  refine cw_region ?_
  refine nx_o (op_move (.tmp 0 rfl)) rfl ?_
  refine nx_o (op_len (.tmp 0 rfl) u50) rfl ?_
  refine nx_o (op_gtr (.tmp 0 rfl) (Can.int _ _ _)) rfl ?_
  refine nx_nil ?_
  refine Says.ex (S' := [(11, B (decide ((v_a1.length : Int) > 60))), (0, SL 2 cSample v_a1), (1, I v_a2)]) (O' := []) (says_pick [0, 3, 4] [] rfl rfl) ?_
  refine ex_kx (hK3 _ _ ?_)
  refine cw_cond (b := (decide ((v_a1.length : Int) > 60))) (.tmp 0 rfl) (fun hc => ?_) (fun hc => ?_)
  · have h := ite_t hc h
    refine cw_seq fun K4 hK4 => ?_
    refine cw_region ?_
    refine nx_o (op_assign (Can.int _ _ _)) rfl ?_
    refine nx_o (op_assign (Can.int _ _ _)) rfl ?_
    refine nx_nil ?_
    refine Says.ex (S' := [(5, I 4), (4, I 0)]) (O' := []) (says_pick [0, 1] [] rfl rfl) ?_
    refine ex_kx (hK4 _ _ ?_)
    refine cw_ret ?_
    refine ex_tr ?_
    cases h
    refine Says.ex (S' := [(4, I 0), (5, I 4)]) (O' := []) (says_pick [1, 0] [] rfl rfl) ?_
    exact ex_done (.inl rfl) rfl (fun a w G V hs _ hS => resM rfl (.tmp (.tmp 0 rfl) (.tmp (.tmp 1 rfl) .nil)) a w G V hs hS)
  · have h := ite_f hc h
    refine cw_skip ?_
    refine ex_kx (hK2 _ _ ?_)
    refine cw_seq fun K5 hK5 => ?_
    refine cw_seq fun K6 hK6 => ?_
    refine cw_region ?_
    refine nx_o (op_move (.tmp 1 rfl)) rfl ?_
    refine nx_o (op_len (.tmp 0 rfl) u50) rfl ?_
    refine nx_o (op_eql (.tmp 0 rfl) (Can.int _ _ _)) rfl ?_
    refine nx_nil ?_
    refine Says.ex (S' := [(14, B ((v_a1.length : Int) == 0)), (0, SL 2 cSample v_a1), (1, I v_a2)]) (O' := []) (says_pick [0, 4, 5] [] rfl rfl) ?_
    refine ex_kx (hK6 _ _ ?_)
    refine cw_cond (b := ((v_a1.length : Int) == 0)) (.tmp 0 rfl) (fun hc => ?_) (fun hc => ?_)
    · have h := ite_t hc h
      refine cw_seq fun K7 hK7 => ?_
      refine cw_region ?_
      refine nx_o (op_assign (Can.int _ _ _)) rfl ?_
      refine nx_o (op_assign (Can.int _ _ _)) rfl ?_
      refine nx_nil ?_
      refine Says.ex (S' := [(5, I 5), (4, I 0)]) (O' := []) (says_pick [0, 1] [] rfl rfl) ?_
      refine ex_kx (hK7 _ _ ?_)
      refine cw_ret ?_
      refine ex_tr ?_
      cases h
      refine Says.ex (S' := [(4, I 0), (5, I 5)]) (O' := []) (says_pick [1, 0] [] rfl rfl) ?_
      exact ex_done (.inl rfl) rfl (fun a w G V hs _ hS => resM rfl (.tmp (.tmp 0 rfl) (.tmp (.tmp 1 rfl) .nil)) a w G V hs hS)
    · have h := ite_f hc h
      refine cw_skip ?_
      refine ex_kx (hK5 _ _ ?_)
      refine cw_seq fun K8 hK8 => ?_
      refine cw_seq fun K9 hK9 => ?_
      refine cw_region ?_
      refine nx_o (op_move (.tmp 2 rfl)) rfl ?_
      refine nx_o (op_lss (.tmp 0 rfl) (Can.int _ _ _)) rfl ?_
      refine nx_o (op_move (.tmp 0 rfl)) rfl ?_
      refine nx_g (opy_guard (cc := (!(decide (v_a2 < 0)))) (.plain 0 rfl) rfl rfl (fun hg => (op_move (.tmp 5 rfl)))) rfl ?_
      refine nx_g (opy_guard (cc := (!(decide (v_a2 < 0)))) (.plain 1 rfl) rfl rfl (fun hg => (op_gtr (.cd 0 rfl hg) (Can.int _ _ _)))) rfl ?_
      refine nx_o (op_or (.tmp 2 rfl) (fun hp => (.cd 0 rfl (not_t hp)))) rfl ?_
      refine nx_nil ?_
      refine Says.ex (S' := [(20, B ((decide (v_a2 < 0)) || (decide (v_a2 > 8)))), (0, SL 2 cSample v_a1), (1, I v_a2)]) (O' := []) (says_pick [0, 7, 8] [] rfl rfl) ?_
      refine ex_kx (hK9 _ _ ?_)
      refine cw_cond (b := ((decide (v_a2 < 0)) || (decide (v_a2 > 8)))) (.tmp 0 rfl) (fun hc => ?_) (fun hc => ?_)
      · have h := ite_t hc h
        refine cw_seq fun K10 hK10 => ?_
        refine cw_region ?_
        refine nx_o (op_assign (Can.int _ _ _)) rfl ?_
        refine nx_o (op_assign (Can.int _ _ _)) rfl ?_
        refine nx_nil ?_
        refine Says.ex (S' := [(5, I 1), (4, I 0)]) (O' := []) (says_pick [0, 1] [] rfl rfl) ?_
        refine ex_kx (hK10 _ _ ?_)
        refine cw_ret ?_
        refine ex_tr ?_
        cases h
        refine Says.ex (S' := [(4, I 0), (5, I 1)]) (O' := []) (says_pick [1, 0] [] rfl rfl) ?_
        exact ex_done (.inl rfl) rfl (fun a w G V hs _ hS => resM rfl (.tmp (.tmp 0 rfl) (.tmp (.tmp 1 rfl) .nil)) a w G V hs hS)
      · have h := ite_f hc h
        refine cw_skip ?_
        refine ex_kx (hK8 _ _ ?_)
        refine cw_join (fun S O => orchref2_Samples_j1 N = some r ∧ S = [] ∧ O = []) ?_ (fun K194 hK194 => ?_)
        · rintro S O ⟨h, rfl, rfl⟩
          unfold orchref2_Samples_j1 at h
          refine cw_seq fun K195 hK195 => ?_
          refine cw_region ?_
          refine nx_o (op_assign (Can.int _ _ _)) rfl ?_
          refine nx_o (op_assign (Can.int _ _ _)) rfl ?_
          refine nx_nil ?_
          refine ex_kx (hK195 _ _ ?_)
          refine cw_ret ?_
          cases h
          refine Says.ex (S' := [(4, I 0), (5, I 0)]) (O' := []) (says_pick [1, 0] [] rfl rfl) ?_
          exact ex_done (.inl rfl) rfl (fun a w G V hs _ hS => resM rfl (.tmp (.tmp 0 rfl) (.tmp (.tmp 1 rfl) .nil)) a w G V hs hS)
        ·
          refine cw_seq fun K196 hK196 => ?_
          refine cw_region ?_
          refine nx_o (op_assign (Can.int _ _ _)) rfl ?_
          refine nx_nil ?_
          refine Says.ex (S' := [(6, I 0), (0, SL 2 cSample v_a1), (1, I v_a2)]) (O' := []) (says_pick [0, 2, 3] [] rfl rfl) ?_
          refine ex_kx (hK196 _ _ ?_)
          refine cw_block ?_
          refine Says.cw (S' := [(0, SL 2 cSample v_a1), (1, I v_a2), (6, I 0)]) (O' := []) (says_pick [1, 2, 0] [] rfl rfl) ?_
          refine cw_loopJ (fun n S O => ∃ (v_t136 : Int), orchref2_Samples_l1 N v_a1 v_a2 n v_t136 = some r ∧ S = [(0, SL 2 cSample v_a1), (1, I v_a2), (6, I v_t136)] ∧ O = []) ?_ ?_ N ⟨0, h, rfl, rfl⟩
          · rintro S O ⟨v_t136, h, -, -⟩
            simp [orchref2_Samples_l1] at h
          · rintro n_1 S O ⟨v_t136, h, rfl, rfl⟩ K317 hK317
            rw [orchref2_Samples_l1] at h
            refine cw_seq fun K318 hK318 => ?_
            refine cw_seq fun K319 hK319 => ?_
            refine cw_region ?_
            refine nx_o (op_move (.tmp 2 rfl)) rfl ?_
            refine nx_o (op_move (.tmp 1 rfl)) rfl ?_
            refine nx_o (op_len (.tmp 0 rfl) u50) rfl ?_
            refine nx_o (op_lss (.tmp 2 rfl) (.tmp 0 rfl)) rfl ?_
            refine nx_nil ?_
            refine Says.ex (S' := [(24, B (decide (v_t136 < (v_a1.length : Int)))), (0, SL 2 cSample v_a1), (1, I v_a2), (6, I v_t136)]) (O' := []) (says_pick [0, 4, 5, 6] [] rfl rfl) ?_
            refine ex_kx (hK319 _ _ ?_)
            refine cw_cond (b := (decide (v_t136 < (v_a1.length : Int)))) (.tmp 0 rfl) (fun hc => ?_) (fun hc => ?_)
            · have h := ite_t hc h
              refine cw_skip ?_
              refine ex_kx (hK318 _ _ ?_)
              refine cw_join (fun S O => orchref2_Samples_j2 N (orchref2_Samples_l1 N v_a1 v_a2 n_1) v_t136 = some r ∧ S = [(0, SL 2 cSample v_a1), (1, I v_a2), (6, I v_t136)] ∧ O = []) ?_ (fun K348 hK348 => ?_)
              · rintro S O ⟨h, rfl, rfl⟩
                unfold orchref2_Samples_j2 at h
                refine cw_region ?_
                refine nx_o (op_move (.tmp 2 rfl)) rfl ?_
                refine nx_o (op_add (.tmp 0 rfl) (Can.int _ _ _)) rfl ?_
                refine nx_k [0, 1, 2, 3] (op_assign (.tmp 0 rfl)) rfl rfl ?_
                show Nx _ _ _ _ _ [(6, I (w64 (v_t136 + 1))), (26, I (w64 (v_t136 + 1))), (25, I v_t136), (0, SL 2 cSample v_a1), (1, I v_a2)] []
                refine nx_nil ?_
                refine Says.ex (S' := [(6, I (w64 (v_t136 + 1))), (0, SL 2 cSample v_a1), (1, I v_a2)]) (O' := []) (says_pick [0, 3, 4] [] rfl rfl) ?_
                refine ex_kx ?_
                refine Says.kx (S' := [(0, SL 2 cSample v_a1), (1, I v_a2), (6, I (w64 (v_t136 + 1)))]) (O' := []) (says_pick [1, 2, 0] [] rfl rfl) ?_
                exact hK317 _ _ ⟨w64 (v_t136 + 1), h, rfl, rfl⟩
              ·
                refine cw_block ?_
                refine cw_seq fun K349 hK349 => ?_
                refine cw_region ?_
                refine nx_o (op_move (.tmp 1 rfl)) rfl ?_
                refine nx_o (op_move (.tmp 4 rfl)) rfl ?_
                obtain ⟨v_y150, hv_y150, h⟩ := bnd h
                refine nx_o (op_indexX hv_y150 (.tmp 1 rfl) (.tmp 0 rfl) u50 s146) rfl ?_
                refine nx_o (op_field (.tmp 0 rfl) o146_0) rfl ?_
                refine nx_o (op_load1 (.tmp 0 rfl) a22) rfl ?_
                obtain ⟨v_r151, hv_r151, h⟩ := bnd h
                refine nx_o (op_call0 (show Fn Go.Proofs.Tryd.prog 70 [SL 1 cI v_y150.row] [] (I v_r151) [] from (f70_fn N v_y150.row _ hv_r151)) c70 (.cons (.tmp 0 rfl) .nil)) rfl ?_
                refine nx_o (op_assign (.tmp 0 rfl)) rfl ?_
                refine nx_nil ?_
                refine Says.ex (S' := [(7, I v_r151), (0, SL 2 cSample v_a1), (1, I v_a2), (6, I v_t136)]) (O' := []) (says_pick [0, 8, 9, 10] [] rfl rfl) ?_
                refine ex_kx (hK349 _ _ ?_)
                refine cw_seq fun K350 hK350 => ?_
                refine cw_seq fun K351 hK351 => ?_
                refine cw_region ?_
                refine nx_o (op_move (.tmp 0 rfl)) rfl ?_
                refine nx_o (op_neq (.tmp 0 rfl) (Can.int _ _ _)) rfl ?_
                refine nx_nil ?_
                refine Says.ex (S' := [(34, B (v_r151 != 0)), (7, I v_r151), (0, SL 2 cSample v_a1), (1, I v_a2), (6, I v_t136)]) (O' := []) (says_pick [0, 2, 3, 4, 5] [] rfl rfl) ?_
                refine ex_kx (hK351 _ _ ?_)
                refine cw_cond (b := (v_r151 != 0)) (.tmp 0 rfl) (fun hc => ?_) (fun hc => ?_)
                · have h := ite_t hc h
                  refine cw_seq fun K352 hK352 => ?_
                  refine cw_region ?_
                  refine nx_o (op_move (.tmp 4 rfl)) rfl ?_
                  refine nx_o (op_move (.tmp 2 rfl)) rfl ?_
                  refine nx_o (op_assign (.tmp 1 rfl)) rfl ?_
                  refine nx_o (op_assign (.tmp 1 rfl)) rfl ?_
                  refine nx_nil ?_
                  refine Says.ex (S' := [(5, I v_r151), (4, I v_t136)]) (O' := []) (says_pick [0, 1] [] rfl rfl) ?_
                  refine ex_kx (hK352 _ _ ?_)
                  refine cw_ret ?_
                  refine ex_tr ?_
                  refine ex_br ?_
                  refine ex_tr ?_
                  refine ex_tr ?_
                  refine ex_br ?_
                  refine ex_tr ?_
                  cases h
                  refine Says.ex (S' := [(4, I v_t136), (5, I v_r151)]) (O' := []) (says_pick [1, 0] [] rfl rfl) ?_
                  exact ex_done (.inl rfl) rfl (fun a w G V hs _ hS => resM rfl (.tmp (.tmp 0 rfl) (.tmp (.tmp 1 rfl) .nil)) a w G V hs hS)
                · have h := ite_f hc h
                  refine cw_skip ?_
                  refine ex_kx (hK350 _ _ ?_)
                  refine cw_seq fun K353 hK353 => ?_
                  refine cw_seq fun K354 hK354 => ?_
                  refine cw_region ?_
                  refine nx_o (op_move (.tmp 2 rfl)) rfl ?_
                  refine nx_o (op_move (.tmp 5 rfl)) rfl ?_
                  obtain ⟨v_y152, hv_y152, h⟩ := bnd h
                  refine nx_o (op_indexX hv_y152 (.tmp 1 rfl) (.tmp 0 rfl) u50 s146) rfl ?_
                  refine nx_o (op_field (.tmp 0 rfl) o146_1) rfl ?_
                  refine nx_o (op_load1 (.tmp 0 rfl) a3) rfl ?_
                  refine nx_o (op_lss (.tmp 0 rfl) (Can.int _ _ _)) rfl ?_
                  refine nx_o (op_move (.tmp 0 rfl)) rfl ?_
                  refine nx_g (opy_guard (cc := (!(decide (v_y152.target < (-1000))))) (.plain 0 rfl) rfl rfl (fun hg => (op_move (.tmp 9 rfl)))) rfl ?_
                  refine nx_g (opy_guard (cc := (!(decide (v_y152.target < (-1000))))) (.plain 1 rfl) rfl rfl (fun hg => (op_move (.tmp 12 rfl)))) rfl ?_
                  obtain ⟨v_y153, hv_y153, h⟩ := bnd h
                  refine nx_g (opy_guard (cc := (!(decide (v_y152.target < (-1000))))) (.plain 2 rfl) rfl rfl (fun hg => (op_indexX (gd_t hg hv_y153) (.cd 1 rfl hg) (.cd 0 rfl hg) u50 s146))) rfl ?_
                  refine nx_g (opy_guard (cc := (!(decide (v_y152.target < (-1000))))) (.plain 3 rfl) rfl rfl (fun hg => (op_field (.cd 0 rfl hg) o146_1))) rfl ?_
                  refine nx_g (opy_guard (cc := (!(decide (v_y152.target < (-1000))))) (.plain 4 rfl) rfl rfl (fun hg => (op_load1 (.cd 0 rfl hg) a3))) rfl ?_
                  refine nx_g (opy_guard (cc := (!(decide (v_y152.target < (-1000))))) (.plain 5 rfl) rfl rfl (fun hg => (op_gtr (.cd 0 rfl hg) (Can.int _ _ _)))) rfl ?_
                  refine nx_o (op_or (.tmp 6 rfl) (fun hp => (.cd 0 rfl (not_t hp)))) rfl ?_
                  refine nx_nil ?_
                  refine Says.ex (S' := [(50, B ((decide (v_y152.target < (-1000))) || (decide (v_y153.target > 1000)))), (0, SL 2 cSample v_a1), (1, I v_a2), (6, I v_t136)]) (O' := []) (says_pick [0, 16, 17, 18] [] rfl rfl) ?_
                  refine ex_kx (hK354 _ _ ?_)
                  refine cw_cond (b := ((decide (v_y152.target < (-1000))) || (decide (v_y153.target > 1000)))) (.tmp 0 rfl) (fun hc => ?_) (fun hc => ?_)
                  · have h := ite_t hc h
                    refine cw_seq fun K355 hK355 => ?_
                    refine cw_region ?_
                    refine nx_o (op_move (.tmp 3 rfl)) rfl ?_
                    refine nx_o (op_assign (.tmp 0 rfl)) rfl ?_
                    refine nx_o (op_assign (Can.int _ _ _)) rfl ?_
                    refine nx_nil ?_
                    refine Says.ex (S' := [(5, I 1), (4, I v_t136)]) (O' := []) (says_pick [0, 1] [] rfl rfl) ?_
                    refine ex_kx (hK355 _ _ ?_)
                    refine cw_ret ?_
                    refine ex_tr ?_
                    refine ex_br ?_
                    refine ex_tr ?_
                    refine ex_tr ?_
                    refine ex_br ?_
                    refine ex_tr ?_
                    cases h
                    refine Says.ex (S' := [(4, I v_t136), (5, I 1)]) (O' := []) (says_pick [1, 0] [] rfl rfl) ?_
                    exact ex_done (.inl rfl) rfl (fun a w G V hs _ hS => resM rfl (.tmp (.tmp 0 rfl) (.tmp (.tmp 1 rfl) .nil)) a w G V hs hS)
                  · have h := ite_f hc h
                    refine cw_skip ?_
                    refine ex_kx (hK353 _ _ ?_)
                    refine cw_seq fun K356 hK356 => ?_
                    refine cw_seq fun K357 hK357 => ?_
                    refine cw_region ?_
                    refine nx_o (op_move (.tmp 1 rfl)) rfl ?_
                    refine nx_o (op_move (.tmp 4 rfl)) rfl ?_
                    obtain ⟨v_y154, hv_y154, h⟩ := bnd h
                    refine nx_o (op_indexX hv_y154 (.tmp 1 rfl) (.tmp 0 rfl) u50 s146) rfl ?_
                    refine nx_o (op_field (.tmp 0 rfl) o146_0) rfl ?_
                    refine nx_o (op_load1 (.tmp 0 rfl) a22) rfl ?_
                    refine nx_o (op_len (.tmp 0 rfl) u22) rfl ?_
                    refine nx_o (op_move (.tmp 8 rfl)) rfl ?_
                    refine nx_o (op_neq (.tmp 1 rfl) (.tmp 0 rfl)) rfl ?_
                    refine nx_nil ?_
                    refine Says.ex (S' := [(59, B ((v_y154.row.length : Int) != v_a2)), (0, SL 2 cSample v_a1), (1, I v_a2), (6, I v_t136)]) (O' := []) (says_pick [0, 9, 10, 11] [] rfl rfl) ?_
                    refine ex_kx (hK357 _ _ ?_)
                    refine cw_cond (b := ((v_y154.row.length : Int) != v_a2)) (.tmp 0 rfl) (fun hc => ?_) (fun hc => ?_)
                    · have h := ite_t hc h
                      refine cw_seq fun K358 hK358 => ?_
                      refine cw_region ?_
                      refine nx_o (op_move (.tmp 3 rfl)) rfl ?_
                      refine nx_o (op_assign (.tmp 0 rfl)) rfl ?_
                      refine nx_o (op_assign (Can.int _ _ _)) rfl ?_
                      refine nx_nil ?_
                      refine Says.ex (S' := [(5, I 3), (4, I v_t136)]) (O' := []) (says_pick [0, 1] [] rfl rfl) ?_
                      refine ex_kx (hK358 _ _ ?_)
                      refine cw_ret ?_
                      refine ex_tr ?_
                      refine ex_br ?_
                      refine ex_tr ?_
                      refine ex_tr ?_
                      refine ex_br ?_
                      refine ex_tr ?_
                      cases h
                      refine Says.ex (S' := [(4, I v_t136), (5, I 3)]) (O' := []) (says_pick [1, 0] [] rfl rfl) ?_
                      exact ex_done (.inl rfl) rfl (fun a w G V hs _ hS => resM rfl (.tmp (.tmp 0 rfl) (.tmp (.tmp 1 rfl) .nil)) a w G V hs hS)
                    · have h := ite_f hc h
                      refine cw_skip ?_
                      refine ex_kx (hK356 _ _ ?_)
                      refine cw_seq fun K359 hK359 => ?_
                      refine cw_region ?_
                      refine nx_o (op_assign (Can.int _ _ _)) rfl ?_
                      refine nx_nil ?_
                      refine Says.ex (S' := [(8, I 0), (0, SL 2 cSample v_a1), (1, I v_a2), (6, I v_t136)]) (O' := []) (says_pick [0, 2, 3, 4] [] rfl rfl) ?_
                      refine ex_kx (hK359 _ _ ?_)
                      refine cw_block ?_
                      refine Says.cw (S' := [(0, SL 2 cSample v_a1), (1, I v_a2), (6, I v_t136), (8, I 0)]) (O' := []) (says_pick [1, 2, 3, 0] [] rfl rfl) ?_
                      refine cw_loopJ (fun n S O => ∃ (v_t160 : Int), orchref2_Samples_l2 N v_a2 v_a1 v_t136 (orchref2_Samples_l1 N v_a1 v_a2 n_1) n v_t160 = some r ∧ S = [(0, SL 2 cSample v_a1), (1, I v_a2), (6, I v_t136), (8, I v_t160)] ∧ O = []) ?_ ?_ N ⟨0, h, rfl, rfl⟩
                      · rintro S O ⟨v_t160, h, -, -⟩
                        simp [orchref2_Samples_l2] at h
                      · rintro n_2 S O ⟨v_t160, h, rfl, rfl⟩ K370 hK370
                        rw [orchref2_Samples_l2] at h
                        refine cw_seq fun K371 hK371 => ?_
                        refine cw_seq fun K372 hK372 => ?_
                        refine cw_region ?_
                        refine nx_o (op_move (.tmp 3 rfl)) rfl ?_
                        refine nx_o (op_move (.tmp 2 rfl)) rfl ?_
                        refine nx_o (op_lss (.tmp 1 rfl) (.tmp 0 rfl)) rfl ?_
                        refine nx_nil ?_
                        refine Says.ex (S' := [(63, B (decide (v_t160 < v_a2))), (0, SL 2 cSample v_a1), (1, I v_a2), (6, I v_t136), (8, I v_t160)]) (O' := []) (says_pick [0, 3, 4, 5, 6] [] rfl rfl) ?_
                        refine ex_kx (hK372 _ _ ?_)
                        refine cw_cond (b := (decide (v_t160 < v_a2))) (.tmp 0 rfl) (fun hc => ?_) (fun hc => ?_)
                        · have h := ite_t hc h
                          refine cw_skip ?_
                          refine ex_kx (hK371 _ _ ?_)
                          refine cw_seq fun K373 hK373 => ?_
                          refine cw_block ?_
                          refine cw_seq fun K374 hK374 => ?_
                          refine cw_region ?_
                          refine nx_o (op_move (.tmp 1 rfl)) rfl ?_
                          refine nx_o (op_move (.tmp 4 rfl)) rfl ?_
                          obtain ⟨v_y161, hv_y161, h⟩ := bnd h
                          refine nx_o (op_indexX hv_y161 (.tmp 1 rfl) (.tmp 0 rfl) u50 s146) rfl ?_
                          refine nx_o (op_field (.tmp 0 rfl) o146_0) rfl ?_
                          refine nx_o (op_load1 (.tmp 0 rfl) a22) rfl ?_
                          refine nx_o (op_move (.tmp 9 rfl)) rfl ?_
                          obtain ⟨v_y162, hv_y162, h⟩ := bnd h
                          refine nx_o (op_indexX hv_y162 (.tmp 1 rfl) (.tmp 0 rfl) u22 s3) rfl ?_
                          refine nx_o (op_load1 (.tmp 0 rfl) a3) rfl ?_
                          refine nx_o (op_eql (.tmp 0 rfl) (Can.int _ _ _)) rfl ?_
                          refine nx_nil ?_
                          refine Says.ex (S' := [(74, B (v_y162 == (-1125899906842624))), (0, SL 2 cSample v_a1), (1, I v_a2), (6, I v_t136), (8, I v_t160)]) (O' := []) (says_pick [0, 10, 11, 12, 13] [] rfl rfl) ?_
                          refine ex_kx (hK374 _ _ ?_)
                          refine cw_cond (b := (v_y162 == (-1125899906842624))) (.tmp 0 rfl) (fun hc => ?_) (fun hc => ?_)
                          · have h := ite_t hc h
                            refine cw_seq fun K375 hK375 => ?_
                            refine cw_region ?_
                            refine nx_o (op_move (.tmp 3 rfl)) rfl ?_
                            refine nx_o (op_assign (.tmp 0 rfl)) rfl ?_
                            refine nx_o (op_assign (Can.int _ _ _)) rfl ?_
                            refine nx_nil ?_
                            refine Says.ex (S' := [(5, I 5), (4, I v_t136)]) (O' := []) (says_pick [0, 1] [] rfl rfl) ?_
                            refine ex_kx (hK375 _ _ ?_)
                            refine cw_ret ?_
                            refine ex_br ?_
                            refine ex_tr ?_
                            refine ex_tr ?_
                            refine ex_br ?_
                            refine ex_br ?_
                            refine ex_tr ?_
                            refine ex_tr ?_
                            refine ex_br ?_
                            refine ex_tr ?_
                            cases h
                            refine Says.ex (S' := [(4, I v_t136), (5, I 5)]) (O' := []) (says_pick [1, 0] [] rfl rfl) ?_
                            exact ex_done (.inl rfl) rfl (fun a w G V hs _ hS => resM rfl (.tmp (.tmp 0 rfl) (.tmp (.tmp 1 rfl) .nil)) a w G V hs hS)
                          · have h := ite_f hc h
                            refine cw_skip ?_
                            refine ex_bn ?_
                            refine ex_kx (hK373 _ _ ?_)
                            refine cw_region ?_
                            refine nx_o (op_move (.tmp 4 rfl)) rfl ?_
                            refine nx_o (op_add (.tmp 0 rfl) (Can.int _ _ _)) rfl ?_
                            refine nx_k [0, 1, 2, 3, 4, 5] (op_assign (.tmp 0 rfl)) rfl rfl ?_
                            show Nx _ _ _ _ _ [(8, I (w64 (v_t160 + 1))), (65, I (w64 (v_t160 + 1))), (64, I v_t160), (74, B (v_y162 == (-1125899906842624))), (0, SL 2 cSample v_a1), (1, I v_a2), (6, I v_t136)] []
                            refine nx_nil ?_
                            refine Says.ex (S' := [(8, I (w64 (v_t160 + 1))), (0, SL 2 cSample v_a1), (1, I v_a2), (6, I v_t136)]) (O' := []) (says_pick [0, 4, 5, 6] [] rfl rfl) ?_
                            refine ex_kx ?_
                            refine Says.kx (S' := [(0, SL 2 cSample v_a1), (1, I v_a2), (6, I v_t136), (8, I (w64 (v_t160 + 1)))]) (O' := []) (says_pick [1, 2, 3, 0] [] rfl rfl) ?_
                            exact hK370 _ _ ⟨w64 (v_t160 + 1), h, rfl, rfl⟩
                        · have h := ite_f hc h
                          refine cw_exit ?_
                          refine ex_te ?_
                          refine ex_te ?_
                          refine ex_be ?_
                          refine ex_bn ?_
                          refine ex_kx ?_
                          refine Says.kx (S' := [(0, SL 2 cSample v_a1), (1, I v_a2), (6, I v_t136)]) (O' := []) (says_pick [1, 2, 3] [] rfl rfl) ?_
                          exact hK348 _ _ ⟨h, rfl, rfl⟩
            · have h := ite_f hc h
              refine cw_exit ?_
              refine ex_te ?_
              refine ex_te ?_
              refine ex_be ?_
              refine ex_kx ?_
              refine Says.kx (S' := []) (O' := []) (says_pick [] [] rfl rfl) ?_
              exact hK194 _ _ ⟨h, rfl, rfl⟩

theorem f109_fn (N : Nat) (v_n1 : Int) (r : Bool) (h : cut_Cell N v_n1 = some r) : Fn Go.Proofs.Tryd.prog 109 [I v_n1] [] (B r) [] := by
  unfold cut_Cell at h
  refine fn_intro [] fun109 rfl rfl (Nat.le_of_ble_eq_true rfl) rfl rfl (fun w G V => ?_)
  show Cw _ _ _ _ [(0, I v_n1)] []
  refine cw_seq fun K1 hK1 => ?_
  refine cw_region ?_
  refine nx_o (op_assign (Can.bool _ _)) rfl ?_
  refine nx_nil ?_
  refine Says.ex (S' := [(0, I v_n1)]) (O' := []) (says_pick [1] [] rfl rfl) ?_
  refine ex_kx (hK1 _ _ ?_)
  refine cw_seq fun K2 hK2 => ?_
  refine cw_region ?_
  refine nx_o (op_move (.tmp 0 rfl)) rfl ?_
  refine nx_o (op_geq (.tmp 0 rfl) (Can.int _ _ _)) rfl ?_
  refine nx_o (op_move (.tmp 0 rfl)) rfl ?_
  refine nx_g (opy_guard (cc := (decide (v_n1 ≥ (-1000000)))) (.plain 0 rfl) rfl rfl (fun hg => (op_move (.tmp 3 rfl)))) rfl ?_
  refine nx_g (opy_guard (cc := (decide (v_n1 ≥ (-1000000)))) (.plain 1 rfl) rfl rfl (fun hg => (op_leq (.cd 0 rfl hg) (Can.int _ _ _)))) rfl ?_
  refine nx_o (op_and (.tmp 2 rfl) (fun hp => (.cd 0 rfl hp))) rfl ?_
  refine nx_o (op_assign (.tmp 0 rfl)) rfl ?_
  refine nx_nil ?_
  refine Says.ex (S' := [(2, B ((decide (v_n1 ≥ (-1000000))) && (decide (v_n1 ≤ 1000000))))]) (O' := []) (says_pick [0] [] rfl rfl) ?_
  refine ex_kx (hK2 _ _ ?_)
  refine cw_ret ?_
  cases h
  exact ex_done (.inl rfl) rfl (fun a w G V hs _ hS => res1 rfl (.tmp 0 rfl) a w G V hS)

theorem f66_fn (N : Nat) (v_row1 : List Int) (r : Option Int) (h : row_Check N v_row1 = some r) : Fn Go.Proofs.Tryd.prog 66 [SL 1 cI v_row1] [] (Er TE r) [] := by
  unfold row_Check at h
  refine fn_intro [] fun66 rfl rfl (Nat.le_of_ble_eq_true rfl) rfl rfl (fun w G V => ?_)
  show Cw _ _ _ _ [(0, SL 1 cI v_row1)] []
  refine cw_seq fun K1 hK1 => ?_
  refine cw_region ?_
  refine nx_o (op_assign (Can.nilE _ TE)) rfl ?_
  refine nx_nil ?_
  refine Says.ex (S' := [(0, SL 1 cI v_row1)]) (O' := []) (says_pick [1] [] rfl rfl) ?_
  refine ex_kx (hK1 _ _ ?_)
  refine cw_seq fun K2 hK2 => ?_
  refine cw_seq fun K3 hK3 => ?_
  refine cw_region ?_
  refine nx_o (op_move (.tmp 0 rfl)) rfl ?_
  refine nx_o (op_len (.tmp 0 rfl) u22) rfl ?_
  refine nx_o (op_gtr (.tmp 0 rfl) (Can.int _ _ _)) rfl ?_
  refine nx_nil ?_
  refine Says.ex (S' := [(7, B (decide ((v_row1.length : Int) > 8))), (0, SL 1 cI v_row1)]) (O' := []) (says_pick [0, 3] [] rfl rfl) ?_
  refine ex_kx (hK3 _ _ ?_)
  refine cw_cond (b := (decide ((v_row1.length : Int) > 8))) (.tmp 0 rfl) (fun hc => ?_) (fun hc => ?_)
  · have h := ite_t hc h
    refine cw_seq fun K4 hK4 => ?_
    refine cw_region ?_
    refine nx_o (op_mkErr (Can.int _ _ _) u123 (fun _ h => by cases h)) rfl ?_
    refine nx_o (op_assign (.tmp 0 rfl)) rfl ?_
    refine nx_nil ?_
    refine Says.ex (S' := [(2, Er TE (some 4))]) (O' := []) (says_pick [0] [] rfl rfl) ?_
    refine ex_kx (hK4 _ _ ?_)
    refine cw_ret ?_
    refine ex_tr ?_
    cases h
    exact ex_done (.inl rfl) rfl (fun a w G V hs _ hS => res1 rfl (.tmp 0 rfl) a w G V hS)
  · have h := ite_f hc h
    refine cw_skip ?_
    refine ex_kx (hK2 _ _ ?_)
    refine cw_join (fun S O => row_Check_j1 N = some r ∧ S = [] ∧ O = []) ?_ (fun K26 hK26 => ?_)
    · rintro S O ⟨h, rfl, rfl⟩
      unfold row_Check_j1 at h
      refine cw_seq fun K27 hK27 => ?_
      refine cw_region ?_
      refine nx_o (op_assign (Can.nilE _ TE)) rfl ?_
      refine nx_nil ?_
      refine ex_kx (hK27 _ _ ?_)
      refine cw_ret ?_
      cases h
      exact ex_done (.inl rfl) rfl (fun a w G V hs _ hS => res1 rfl (.tmp 0 rfl) a w G V hS)
    ·
      refine cw_seq fun K28 hK28 => ?_
      refine cw_region ?_
      refine nx_o (op_move (.tmp 1 rfl)) rfl ?_
      refine nx_o (op_len (.tmp 0 rfl) u22) rfl ?_
      refine nx_o (op_move (Can.int _ _ _)) rfl ?_
      refine nx_nil ?_
      refine Says.ex (S' := [(11, I 0), (10, I (v_row1.length : Int)), (9, SL 1 cI v_row1)]) (O' := []) (says_pick [0, 1, 2] [] rfl rfl) ?_
      refine ex_kx (hK28 _ _ ?_)
      refine cw_block ?_
      refine Says.cw (S' := [(9, SL 1 cI v_row1), (10, I (v_row1.length : Int)), (11, I 0)]) (O' := []) (says_pick [2, 1, 0] [] rfl rfl) ?_
      refine cw_loopJ (fun n S O => ∃ (v_t15 : Int), row_Check_l1 N v_row1 n v_t15 = some r ∧ S = [(9, SL 1 cI v_row1), (10, I (v_row1.length : Int)), (11, I v_t15)] ∧ O = []) ?_ ?_ N ⟨0, h, rfl, rfl⟩
      · rintro S O ⟨v_t15, h, -, -⟩
        simp [row_Check_l1] at h
      · rintro n_1 S O ⟨v_t15, h, rfl, rfl⟩ K41 hK41
        rw [row_Check_l1] at h
        refine cw_seq fun K42 hK42 => ?_
        refine cw_region ?_
        refine nx_o (op_lss (.tmp 2 rfl) (.tmp 1 rfl)) rfl ?_
        refine nx_nil ?_
        refine ex_kx (hK42 _ _ ?_)
        refine cw_seq fun K43 hK43 => ?_
        refine cw_cond (b := (decide (v_t15 < (v_row1.length : Int)))) (.tmp 0 rfl) (fun hc => ?_) (fun hc => ?_)
        · have h := ite_t hc h
          refine cw_skip ?_
          refine ex_kx (hK43 _ _ ?_)
          refine cw_seq fun K44 hK44 => ?_
          refine cw_block ?_
          refine cw_seq fun K45 hK45 => ?_
          refine cw_region ?_
          obtain ⟨v_y16, hv_y16, h⟩ := bnd h
          refine nx_o (op_indexX hv_y16 (.tmp 1 rfl) (.tmp 3 rfl) u22 s3) rfl ?_
          refine nx_o (op_load1 (.tmp 0 rfl) a3) rfl ?_
          refine nx_o (op_assign (.tmp 0 rfl)) rfl ?_
          refine nx_nil ?_
          refine Says.ex (S' := [(4, I v_y16), (9, SL 1 cI v_row1), (10, I (v_row1.length : Int)), (11, I v_t15)]) (O' := []) (says_pick [0, 4, 5, 6] [] rfl rfl) ?_
          refine ex_kx (hK45 _ _ ?_)
          refine cw_seq fun K46 hK46 => ?_
          refine cw_region ?_
          refine nx_o (op_move (.tmp 0 rfl)) rfl ?_
          refine nx_o (op_neq (.tmp 0 rfl) (Can.int _ _ _)) rfl ?_
          refine nx_o (op_move (.tmp 0 rfl)) rfl ?_
          refine nx_g (opy_guard (cc := (v_y16 != (-1125899906842624))) (.plain 0 rfl) rfl rfl (fun hg => (op_move (.tmp 3 rfl)))) rfl ?_
          obtain ⟨v_r17, hv_r17, h⟩ := bnd h
          refine nx_g (opy_guard (cc := (v_y16 != (-1125899906842624))) (.plain 1 rfl) rfl rfl (fun hg => (op_call0 (show Fn Go.Proofs.Tryd.prog 109 [I v_y16] [] (B v_r17) [] from (f109_fn N v_y16 _ (gd_t hg hv_r17))) c109 (.cons (.cd 0 rfl hg) .nil)))) rfl ?_
          refine nx_g (opy_guard (cc := (v_y16 != (-1125899906842624))) (.plain 2 rfl) rfl rfl (fun hg => (op_not (.cd 0 rfl hg)))) rfl ?_
          refine nx_o (op_and (.tmp 3 rfl) (fun hp => (.cd 0 rfl hp))) rfl ?_
          refine nx_nil ?_
          refine Says.ex (S' := [(21, B ((v_y16 != (-1125899906842624)) && (!v_r17))), (9, SL 1 cI v_row1), (10, I (v_row1.length : Int)), (11, I v_t15)]) (O' := []) (says_pick [0, 8, 9, 10] [] rfl rfl) ?_
          refine ex_kx (hK46 _ _ ?_)
          refine cw_cond (b := ((v_y16 != (-1125899906842624)) && (!v_r17))) (.tmp 0 rfl) (fun hc => ?_) (fun hc => ?_)
          · have h := ite_t hc h
            refine cw_seq fun K47 hK47 => ?_
            refine cw_region ?_
            refine nx_o (op_mkErr (Can.int _ _ _) u123 (fun _ h => by cases h)) rfl ?_
            refine nx_o (op_assign (.tmp 0 rfl)) rfl ?_
            refine nx_nil ?_
            refine Says.ex (S' := [(2, Er TE (some 1))]) (O' := []) (says_pick [0] [] rfl rfl) ?_
            refine ex_kx (hK47 _ _ ?_)
            refine cw_ret ?_
            refine ex_br ?_
            refine ex_tr ?_
            refine ex_tr ?_
            refine ex_br ?_
            refine ex_tr ?_
            cases h
            exact ex_done (.inl rfl) rfl (fun a w G V hs _ hS => res1 rfl (.tmp 0 rfl) a w G V hS)
          · have h := ite_f hc h
            refine cw_skip ?_
            refine ex_bn ?_
            refine ex_kx (hK44 _ _ ?_)
            refine cw_region ?_
            refine nx_o (op_add (.tmp 3 rfl) (Can.int _ _ _)) rfl ?_
            refine nx_k [0, 1, 2, 3] (op_move (.tmp 0 rfl)) rfl rfl ?_
            show Nx _ _ _ _ _ [(11, I (w64 (v_t15 + 1))), (23, I (w64 (v_t15 + 1))), (21, B ((v_y16 != (-1125899906842624)) && (!v_r17))), (9, SL 1 cI v_row1), (10, I (v_row1.length : Int))] []
            refine nx_nil ?_
            refine Says.ex (S' := [(11, I (w64 (v_t15 + 1))), (9, SL 1 cI v_row1), (10, I (v_row1.length : Int))]) (O' := []) (says_pick [0, 3, 4] [] rfl rfl) ?_
            refine ex_kx ?_
            refine Says.kx (S' := [(9, SL 1 cI v_row1), (10, I (v_row1.length : Int)), (11, I (w64 (v_t15 + 1)))]) (O' := []) (says_pick [1, 2, 0] [] rfl rfl) ?_
            exact hK41 _ _ ⟨w64 (v_t15 + 1), h, rfl, rfl⟩
        · have h := ite_f hc h
          refine cw_exit ?_
          refine ex_te ?_
          refine ex_te ?_
          refine ex_be ?_
          refine ex_kx ?_
          refine Says.kx (S' := []) (O' := []) (says_pick [] [] rfl rfl) ?_
          exact hK26 _ _ ⟨h, rfl, rfl⟩

theorem f148_fn (N : Nat) (v_s1 : List Int) (v_v2 : Int) (r : Int) (h : slices_Index N v_s1 v_v2 = some r) : Fn Go.Proofs.Tryd.prog 148 [SL 1 cI v_s1, I v_v2] [] (I r) [] := by
  unfold slices_Index at h
  refine fn_intro [] fun148 rfl rfl (Nat.le_of_ble_eq_true rfl) rfl rfl (fun w G V => ?_)
  show Cw _ _ _ _ [(0, SL 1 cI v_s1), (1, I v_v2)] []
  refine cw_seq fun K1 hK1 => ?_
  refine cw_region ?_
  refine nx_o (op_assign (Can.int _ _ _)) rfl ?_
  refine nx_nil ?_
  refine Says.ex (S' := [(0, SL 1 cI v_s1), (1, I v_v2)]) (O' := []) (says_pick [1, 2] [] rfl rfl) ?_
  refine ex_kx (hK1 _ _ ?_)
  refine cw_join (fun S O => slices_Index_j1 N = some r ∧ S = [] ∧ O = []) ?_ (fun K23 hK23 => ?_)
  · rintro S O ⟨h, rfl, rfl⟩
    unfold slices_Index_j1 at h
    refine cw_seq fun K24 hK24 => ?_
    refine cw_region ?_
    refine nx_o (op_assign (Can.int _ _ _)) rfl ?_
    refine nx_nil ?_
    refine ex_kx (hK24 _ _ ?_)
    refine cw_ret ?_
    cases h
    exact ex_done (.inl rfl) rfl (fun a w G V hs _ hS => res1 rfl (.tmp 0 rfl) a w G V hS)
  ·
    refine cw_seq fun K25 hK25 => ?_
    refine cw_region ?_
    refine nx_o (op_move (.tmp 0 rfl)) rfl ?_
    refine nx_o (op_len (.tmp 0 rfl) u22) rfl ?_
    refine nx_o (op_move (Can.int _ _ _)) rfl ?_
    refine nx_nil ?_
    refine Says.ex (S' := [(8, I 0), (7, I (v_s1.length : Int)), (0, SL 1 cI v_s1), (1, I v_v2)]) (O' := []) (says_pick [0, 1, 3, 4] [] rfl rfl) ?_
    refine ex_kx (hK25 _ _ ?_)
    refine cw_block ?_
    refine Says.cw (S' := [(0, SL 1 cI v_s1), (1, I v_v2), (7, I (v_s1.length : Int)), (8, I 0)]) (O' := []) (says_pick [2, 3, 1, 0] [] rfl rfl) ?_
    refine cw_loopJ (fun n S O => ∃ (v_t11 : Int), slices_Index_l1 N v_s1 v_v2 n v_t11 = some r ∧ S = [(0, SL 1 cI v_s1), (1, I v_v2), (7, I (v_s1.length : Int)), (8, I v_t11)] ∧ O = []) ?_ ?_ N ⟨0, h, rfl, rfl⟩
    · rintro S O ⟨v_t11, h, -, -⟩
      simp [slices_Index_l1] at h
    · rintro n_1 S O ⟨v_t11, h, rfl, rfl⟩ K38 hK38
      rw [slices_Index_l1] at h
      refine cw_seq fun K39 hK39 => ?_
      refine cw_region ?_
      refine nx_o (op_lss (.tmp 3 rfl) (.tmp 2 rfl)) rfl ?_
      refine nx_nil ?_
      refine ex_kx (hK39 _ _ ?_)
      refine cw_seq fun K40 hK40 => ?_
      refine cw_cond (b := (decide (v_t11 < (v_s1.length : Int)))) (.tmp 0 rfl) (fun hc => ?_) (fun hc => ?_)
      · have h := ite_t hc h
        refine cw_skip ?_
        refine ex_kx (hK40 _ _ ?_)
        refine cw_seq fun K41 hK41 => ?_
        refine cw_block ?_
        refine cw_seq fun K42 hK42 => ?_
        refine cw_region ?_
        refine nx_o (op_move (.tmp 4 rfl)) rfl ?_
        refine nx_o (op_assign (.tmp 0 rfl)) rfl ?_
        refine nx_nil ?_
        refine Says.ex (S' := [(5, I v_t11), (0, SL 1 cI v_s1), (1, I v_v2), (7, I (v_s1.length : Int)), (8, I v_t11)]) (O' := []) (says_pick [0, 3, 4, 5, 6] [] rfl rfl) ?_
        refine ex_kx (hK42 _ _ ?_)
        refine cw_seq fun K43 hK43 => ?_
        refine cw_region ?_
        refine nx_o (op_move (.tmp 2 rfl)) rfl ?_
        refine nx_o (op_move (.tmp 2 rfl)) rfl ?_
        refine nx_o (op_move (.tmp 2 rfl)) rfl ?_
        obtain ⟨v_y12, hv_y12, h⟩ := bnd h
        refine nx_o (op_indexX hv_y12 (.tmp 1 rfl) (.tmp 0 rfl) u22 s3) rfl ?_
        refine nx_o (op_load1 (.tmp 0 rfl) a3) rfl ?_
        refine nx_o (op_eql (.tmp 4 rfl) (.tmp 0 rfl)) rfl ?_
        refine nx_nil ?_
        refine Says.ex (S' := [(16, B (v_v2 == v_y12)), (5, I v_t11), (0, SL 1 cI v_s1), (1, I v_v2), (7, I (v_s1.length : Int)), (8, I v_t11)]) (O' := []) (says_pick [0, 6, 7, 8, 9, 10] [] rfl rfl) ?_
        refine ex_kx (hK43 _ _ ?_)
        refine cw_cond (b := (v_v2 == v_y12)) (.tmp 0 rfl) (fun hc => ?_) (fun hc => ?_)
        · have h := ite_t hc h
          refine cw_seq fun K44 hK44 => ?_
          refine cw_region ?_
          refine nx_o (op_move (.tmp 1 rfl)) rfl ?_
          refine nx_o (op_assign (.tmp 0 rfl)) rfl ?_
          refine nx_nil ?_
          refine Says.ex (S' := [(4, I v_t11)]) (O' := []) (says_pick [0] [] rfl rfl) ?_
          refine ex_kx (hK44 _ _ ?_)
          refine cw_ret ?_
          refine ex_br ?_
          refine ex_tr ?_
          refine ex_tr ?_
          refine ex_br ?_
          refine ex_tr ?_
          cases h
          exact ex_done (.inl rfl) rfl (fun a w G V hs _ hS => res1 rfl (.tmp 0 rfl) a w G V hS)
        · have h := ite_f hc h
          refine cw_skip ?_
          refine ex_bn ?_
          refine ex_kx (hK41 _ _ ?_)
          refine cw_region ?_
          refine nx_o (op_add (.tmp 5 rfl) (Can.int _ _ _)) rfl ?_
          refine nx_k [0, 1, 2, 3, 4, 5] (op_move (.tmp 0 rfl)) rfl rfl ?_
          show Nx _ _ _ _ _ [(8, I (w64 (v_t11 + 1))), (18, I (w64 (v_t11 + 1))), (16, B (v_v2 == v_y12)), (5, I v_t11), (0, SL 1 cI v_s1), (1, I v_v2), (7, I (v_s1.length : Int))] []
          refine nx_nil ?_
          refine Says.ex (S' := [(8, I (w64 (v_t11 + 1))), (0, SL 1 cI v_s1), (1, I v_v2), (7, I (v_s1.length : Int))]) (O' := []) (says_pick [0, 4, 5, 6] [] rfl rfl) ?_
          refine ex_kx ?_
          refine Says.kx (S' := [(0, SL 1 cI v_s1), (1, I v_v2), (7, I (v_s1.length : Int)), (8, I (w64 (v_t11 + 1)))]) (O' := []) (says_pick [1, 2, 3, 0] [] rfl rfl) ?_
          exact hK38 _ _ ⟨w64 (v_t11 + 1), h, rfl, rfl⟩
      · have h := ite_f hc h
        refine cw_exit ?_
        refine ex_te ?_
        refine ex_te ?_
        refine ex_be ?_
        refine ex_kx ?_
        refine Says.kx (S' := []) (O' := []) (says_pick [] [] rfl rfl) ?_
        exact hK23 _ _ ⟨h, rfl, rfl⟩

theorem f98_fn (N : Nat) (v_s1 : List Int) (v_v2 : Int) (r : Bool) (h : slices_Contains N v_s1 v_v2 = some r) : Fn Go.Proofs.Tryd.prog 98 [SL 1 cI v_s1, I v_v2] [] (B r) [] := by
  unfold slices_Contains at h
  refine fn_intro [] fun98 rfl rfl (Nat.le_of_ble_eq_true rfl) rfl rfl (fun w G V => ?_)
  show Cw _ _ _ _ [(0, SL 1 cI v_s1), (1, I v_v2)] []
  refine cw_seq fun K1 hK1 => ?_
  refine cw_region ?_
  refine nx_o (op_assign (Can.bool _ _)) rfl ?_
  refine nx_nil ?_
  refine Says.ex (S' := [(0, SL 1 cI v_s1), (1, I v_v2)]) (O' := []) (says_pick [1, 2] [] rfl rfl) ?_
  refine ex_kx (hK1 _ _ ?_)
  refine cw_seq fun K2 hK2 => ?_
  refine cw_region ?_
  refine nx_o (op_move (.tmp 0 rfl)) rfl ?_
  refine nx_o (op_move (.tmp 2 rfl)) rfl ?_
  obtain ⟨v_r3, hv_r3, h⟩ := bnd h
  refine nx_o (op_call0 (show Fn Go.Proofs.Tryd.prog 148 [SL 1 cI v_s1, I v_v2] [] (I v_r3) [] from (f148_fn N v_s1 v_v2 _ hv_r3)) c148 (.cons (.tmp 1 rfl) (.cons (.tmp 0 rfl) .nil))) rfl ?_
  refine nx_o (op_geq (.tmp 0 rfl) (Can.int _ _ _)) rfl ?_
  refine nx_o (op_assign (.tmp 0 rfl)) rfl ?_
  refine nx_nil ?_
  refine Says.ex (S' := [(4, B (decide (v_r3 ≥ 0)))]) (O' := []) (says_pick [0] [] rfl rfl) ?_
  refine ex_kx (hK2 _ _ ?_)
  refine cw_ret ?_
  cases h
  exact ex_done (.inl rfl) rfl (fun a w G V hs _ hS => res1 rfl (.tmp 0 rfl) a w G V hS)

theorem f42_fn (N : Nat) (v_a1 : List Sample) (v_a2 : Int) (r : Int × (Option Int)) (h : grow_Check N v_a1 v_a2 = some r) : Fn Go.Proofs.Tryd.prog 42 [SL 2 cSample v_a1, I v_a2] [] (.tup [I r.1, Er TE r.2]) [] := by
  unfold grow_Check at h
  refine fn_intro [] fun42 rfl rfl (Nat.le_of_ble_eq_true rfl) rfl rfl (fun w G V => ?_)
  show Cw _ _ _ _ [(0, SL 2 cSample v_a1), (1, I v_a2)] []
  refine cw_seq fun K1 hK1 => ?_
  refine cw_region ?_
  refine nx_o (op_assign (Can.int _ _ _)) rfl ?_
  refine nx_o (op_assign (Can.nilE _ TE)) rfl ?_
  refine nx_nil ?_
  refine Says.ex (S' := [(0, SL 2 cSample v_a1), (1, I v_a2)]) (O' := []) (says_pick [2, 3] [] rfl rfl) ?_
  refine ex_kx (hK1 _ _ ?_)
  refine cw_seq fun K2 hK2 => ?_
  refine cw_block ?_
  refine cw_seq fun K3 hK3 => ?_
  refine cw_region ?_
  refine nx_o (op_move (.tmp 0 rfl)) rfl ?_
  refine nx_o (op_len (.tmp 0 rfl) u50) rfl ?_
  refine nx_o (op_gtr (.tmp 0 rfl) (Can.int _ _ _)) rfl ?_
  refine nx_o (op_assign (.tmp 0 rfl)) rfl ?_
  refine nx_nil ?_
  refine Says.ex (S' := [(9, B (decide ((v_a1.length : Int) > 60))), (0, SL 2 cSample v_a1), (1, I v_a2)]) (O' := []) (says_pick [0, 4, 5] [] rfl rfl) ?_
  refine ex_kx (hK3 _ _ ?_)
  refine cw_cond (b := (decide ((v_a1.length : Int) > 60))) (.tmp 0 rfl) (fun hc => ?_) (fun hc => ?_)
  · have h := ite_t hc h
    refine cw_seq fun K4 hK4 => ?_
    refine cw_region ?_
    refine nx_o (op_mkErr (Can.int _ _ _) u123 (fun _ h => by cases h)) rfl ?_
    refine nx_o (op_assign (Can.int _ _ _)) rfl ?_
    refine nx_o (op_assign (.tmp 1 rfl)) rfl ?_
    refine nx_nil ?_
    refine Says.ex (S' := [(5, Er TE (some 4)), (4, I 0)]) (O' := []) (says_pick [0, 1] [] rfl rfl) ?_
    refine ex_kx (hK4 _ _ ?_)
    refine cw_ret ?_
    refine ex_br ?_
    refine ex_tr ?_
    cases h
    refine Says.ex (S' := [(4, I 0), (5, Er TE (some 4))]) (O' := []) (says_pick [1, 0] [] rfl rfl) ?_
    exact ex_done (.inl rfl) rfl (fun a w G V hs _ hS => resM rfl (.tmp (.tmp 0 rfl) (.tmp (.tmp 1 rfl) .nil)) a w G V hs hS)
  · have h := ite_f hc h
    refine cw_seq fun K5 hK5 => ?_
    refine cw_region ?_
    refine nx_o (op_move (.tmp 1 rfl)) rfl ?_
    refine nx_o (op_len (.tmp 0 rfl) u50) rfl ?_
    refine nx_o (op_eql (.tmp 0 rfl) (Can.int _ _ _)) rfl ?_
    refine nx_o (op_assign (.tmp 0 rfl)) rfl ?_
    refine nx_nil ?_
    refine Says.ex (S' := [(14, B ((v_a1.length : Int) == 0)), (0, SL 2 cSample v_a1), (1, I v_a2)]) (O' := []) (says_pick [0, 5, 6] [] rfl rfl) ?_
    refine ex_kx (hK5 _ _ ?_)
    refine cw_cond (b := ((v_a1.length : Int) == 0)) (.tmp 0 rfl) (fun hc => ?_) (fun hc => ?_)
    · have h := ite_t hc h
      refine cw_seq fun K6 hK6 => ?_
      refine cw_region ?_
      refine nx_o (op_mkErr (Can.int _ _ _) u123 (fun _ h => by cases h)) rfl ?_
      refine nx_o (op_assign (Can.int _ _ _)) rfl ?_
      refine nx_o (op_assign (.tmp 1 rfl)) rfl ?_
      refine nx_nil ?_
      refine Says.ex (S' := [(5, Er TE (some 5)), (4, I 0)]) (O' := []) (says_pick [0, 1] [] rfl rfl) ?_
      refine ex_kx (hK6 _ _ ?_)
      refine cw_ret ?_
      refine ex_br ?_
      refine ex_tr ?_
      cases h
      refine Says.ex (S' := [(4, I 0), (5, Er TE (some 5))]) (O' := []) (says_pick [1, 0] [] rfl rfl) ?_
      exact ex_done (.inl rfl) rfl (fun a w G V hs _ hS => resM rfl (.tmp (.tmp 0 rfl) (.tmp (.tmp 1 rfl) .nil)) a w G V hs hS)
    · have h := ite_f hc h
      refine cw_seq fun K7 hK7 => ?_
      refine cw_region ?_
      refine nx_o (op_move (.tmp 2 rfl)) rfl ?_
      refine nx_o (op_lss (.tmp 0 rfl) (Can.int _ _ _)) rfl ?_
      refine nx_o (op_move (.tmp 0 rfl)) rfl ?_
      refine nx_g (opy_guard (cc := (!(decide (v_a2 < 0)))) (.plain 0 rfl) rfl rfl (fun hg => (op_move (.tmp 5 rfl)))) rfl ?_
      refine nx_g (opy_guard (cc := (!(decide (v_a2 < 0)))) (.plain 1 rfl) rfl rfl (fun hg => (op_gtr (.cd 0 rfl hg) (Can.int _ _ _)))) rfl ?_
      refine nx_o (op_or (.tmp 2 rfl) (fun hp => (.cd 0 rfl (not_t hp)))) rfl ?_
      refine nx_o (op_assign (.tmp 0 rfl)) rfl ?_
      refine nx_nil ?_
      refine Says.ex (S' := [(19, B ((decide (v_a2 < 0)) || (decide (v_a2 > 8)))), (0, SL 2 cSample v_a1), (1, I v_a2)]) (O' := []) (says_pick [0, 8, 9] [] rfl rfl) ?_
      refine ex_kx (hK7 _ _ ?_)
      refine cw_cond (b := ((decide (v_a2 < 0)) || (decide (v_a2 > 8)))) (.tmp 0 rfl) (fun hc => ?_) (fun hc => ?_)
      · have h := ite_t hc h
        refine cw_seq fun K8 hK8 => ?_
        refine cw_region ?_
        refine nx_o (op_mkErr (Can.int _ _ _) u123 (fun _ h => by cases h)) rfl ?_
        refine nx_o (op_assign (Can.int _ _ _)) rfl ?_
        refine nx_o (op_assign (.tmp 1 rfl)) rfl ?_
        refine nx_nil ?_
        refine Says.ex (S' := [(5, Er TE (some 1)), (4, I 0)]) (O' := []) (says_pick [0, 1] [] rfl rfl) ?_
        refine ex_kx (hK8 _ _ ?_)
        refine cw_ret ?_
        refine ex_br ?_
        refine ex_tr ?_
        cases h
        refine Says.ex (S' := [(4, I 0), (5, Er TE (some 1))]) (O' := []) (says_pick [1, 0] [] rfl rfl) ?_
        exact ex_done (.inl rfl) rfl (fun a w G V hs _ hS => resM rfl (.tmp (.tmp 0 rfl) (.tmp (.tmp 1 rfl) .nil)) a w G V hs hS)
      · have h := ite_f hc h
        refine cw_skip ?_
        refine ex_bn ?_
        refine ex_kx (hK2 _ _ ?_)
        refine cw_join (fun S O => grow_Check_j1 N = some r ∧ S = [] ∧ O = []) ?_ (fun K54 hK54 => ?_)
        · rintro S O ⟨h, rfl, rfl⟩
          unfold grow_Check_j1 at h
          refine cw_seq fun K55 hK55 => ?_
          refine cw_region ?_
          refine nx_o (op_assign (Can.int _ _ _)) rfl ?_
          refine nx_o (op_assign (Can.nilE _ TE)) rfl ?_
          refine nx_nil ?_
          refine ex_kx (hK55 _ _ ?_)
          refine cw_ret ?_
          cases h
          refine Says.ex (S' := [(4, I 0), (5, Er TE none)]) (O' := []) (says_pick [1, 0] [] rfl rfl) ?_
          exact ex_done (.inl rfl) rfl (fun a w G V hs _ hS => resM rfl (.tmp (.tmp 0 rfl) (.tmp (.tmp 1 rfl) .nil)) a w G V hs hS)
        ·
          refine cw_seq fun K56 hK56 => ?_
          refine cw_region ?_
          refine nx_o (op_move (.tmp 1 rfl)) rfl ?_
          refine nx_o (op_len (.tmp 0 rfl) u50) rfl ?_
          refine nx_o (op_move (Can.int _ _ _)) rfl ?_
          refine nx_nil ?_
          refine Says.ex (S' := [(29, I 0), (28, I (v_a1.length : Int)), (27, SL 2 cSample v_a1), (1, I v_a2)]) (O' := []) (says_pick [0, 1, 2, 5] [] rfl rfl) ?_
          refine ex_kx (hK56 _ _ ?_)
          refine cw_block ?_
          refine Says.cw (S' := [(1, I v_a2), (27, SL 2 cSample v_a1), (28, I (v_a1.length : Int)), (29, I 0)]) (O' := []) (says_pick [3, 2, 1, 0] [] rfl rfl) ?_
          refine cw_loopJ (fun n S O => ∃ (v_t21 : Int), grow_Check_l1 N v_a1 v_a2 n v_t21 = some r ∧ S = [(1, I v_a2), (27, SL 2 cSample v_a1), (28, I (v_a1.length : Int)), (29, I v_t21)] ∧ O = []) ?_ ?_ N ⟨0, h, rfl, rfl⟩
          · rintro S O ⟨v_t21, h, -, -⟩
            simp [grow_Check_l1] at h
          · rintro n_1 S O ⟨v_t21, h, rfl, rfl⟩ K85 hK85
            rw [grow_Check_l1] at h
            refine cw_seq fun K86 hK86 => ?_
            refine cw_region ?_
            refine nx_o (op_lss (.tmp 3 rfl) (.tmp 2 rfl)) rfl ?_
            refine nx_nil ?_
            refine ex_kx (hK86 _ _ ?_)
            refine cw_seq fun K87 hK87 => ?_
            refine cw_cond (b := (decide (v_t21 < (v_a1.length : Int)))) (.tmp 0 rfl) (fun hc => ?_) (fun hc => ?_)
            · have h := ite_t hc h
              refine cw_skip ?_
              refine ex_kx (hK87 _ _ ?_)
              refine cw_seq fun K88 hK88 => ?_
              refine cw_block ?_
              refine cw_seq fun K89 hK89 => ?_
              refine cw_region ?_
              refine nx_o (op_move (.tmp 4 rfl)) rfl ?_
              obtain ⟨v_y22, hv_y22, h⟩ := bnd h
              refine nx_o (op_indexX hv_y22 (.tmp 3 rfl) (.tmp 5 rfl) u50 s146) rfl ?_
              refine nx_o (op_loadA (cSample v_y22) (.tmp 0 rfl) a146 s146 rfl) rfl ?_
              refine nx_op (op_alloc 106 (cSample (Sample.mk [] 0)) za146 zSample rfl) rfl ?_
              show Nx _ _ _ _ _ [(7, .ref 106), (33, .agg (cSample v_y22)), (32, .ptr (cSample v_y22)), (31, I v_t21), (30, B (decide (v_t21 < (v_a1.length : Int)))), (1, I v_a2), (27, SL 2 cSample v_a1), (28, I (v_a1.length : Int)), (29, I v_t21)] [(106, .var 146 [SL 1 cI [], I 0])]
              refine nx_o (op_assign (.tmp 3 rfl)) rfl ?_
              refine nx_o0 (op_storeVA (its := (cSample v_y22)) (.tmp 1 rfl) 0 rfl (.agg (.tmp 2 rfl)) rfl s146) ?_
              show Nx _ _ _ _ _ [(6, I v_t21), (7, .ref 106), (33, .agg (cSample v_y22)), (32, .ptr (cSample v_y22)), (31, I v_t21), (30, B (decide (v_t21 < (v_a1.length : Int)))), (1, I v_a2), (27, SL 2 cSample v_a1), (28, I (v_a1.length : Int)), (29, I v_t21)] [(106, .var 146 [SL 1 cI v_y22.row, I v_y22.target])]
              refine nx_nil ?_
              refine Says.ex (S' := [(6, I v_t21), (7, .ref 106), (1, I v_a2), (27, SL 2 cSample v_a1), (28, I (v_a1.length : Int)), (29, I v_t21)]) (O' := [(106, .var 146 [SL 1 cI v_y22.row, I v_y22.target])]) (says_pick [0, 1, 6, 7, 8, 9] [0] rfl rfl) ?_
              refine ex_kx (hK89 _ _ ?_)
              refine cw_seq fun K90 hK90 => ?_
              refine cw_seq fun K91 hK91 => ?_
              refine cw_region ?_
              refine nx_o (op_fieldVar (.tmp 1 rfl) 0 rfl o146_0) rfl ?_
              refine nx_o (op_loadV (.tmp 0 rfl) 0 rfl rfl a22) rfl ?_
              obtain ⟨v_r23, hv_r23, h⟩ := bnd h
              refine nx_o (op_call0 (show Fn Go.Proofs.Tryd.prog 66 [SL 1 cI v_y22.row] [] (Er TE v_r23) [] from (f66_fn N v_y22.row _ hv_r23)) c66 (.cons (.tmp 0 rfl) .nil)) rfl ?_
              refine nx_o (op_assign (.tmp 0 rfl)) rfl ?_
              refine nx_nil ?_
              refine Says.ex (S' := [(8, Er TE v_r23), (6, I v_t21), (7, .ref 106), (1, I v_a2), (27, SL 2 cSample v_a1), (28, I (v_a1.length : Int)), (29, I v_t21)]) (O' := [(106, .var 146 [SL 1 cI v_y22.row, I v_y22.target])]) (says_pick [0, 4, 5, 6, 7, 8, 9] [0] rfl rfl) ?_
              refine ex_kx (hK91 _ _ ?_)
              refine cw_seq fun K92 hK92 => ?_
              refine cw_region ?_
              refine nx_o (op_move (.tmp 0 rfl)) rfl ?_
              refine nx_o (op_neqNil (.tmp 0 rfl) u32) rfl ?_
              refine nx_nil ?_
              refine Says.ex (S' := [(38, B v_r23.isSome), (8, Er TE v_r23), (6, I v_t21), (7, .ref 106), (1, I v_a2), (27, SL 2 cSample v_a1), (28, I (v_a1.length : Int)), (29, I v_t21)]) (O' := [(106, .var 146 [SL 1 cI v_y22.row, I v_y22.target])]) (says_pick [0, 2, 3, 4, 5, 6, 7, 8] [0] rfl rfl) ?_
              refine ex_kx (hK92 _ _ ?_)
              refine cw_cond (b := v_r23.isSome) (.tmp 0 rfl) (fun hc => ?_) (fun hc => ?_)
              · have h := ite_t hc h
                refine cw_seq fun K93 hK93 => ?_
                refine cw_region ?_
                refine nx_o (op_move (.tmp 2 rfl)) rfl ?_
                refine nx_o (op_move (.tmp 2 rfl)) rfl ?_
                refine nx_o (op_assign (.tmp 1 rfl)) rfl ?_
                refine nx_o (op_assign (.tmp 1 rfl)) rfl ?_
                refine nx_nil ?_
                refine Says.ex (S' := [(5, Er TE v_r23), (4, I v_t21)]) (O' := []) (says_pick [0, 1] [] rfl rfl) ?_
                refine ex_kx (hK93 _ _ ?_)
                refine cw_ret ?_
                refine ex_tr ?_
                refine ex_br ?_
                refine ex_tr ?_
                refine ex_tr ?_
                refine ex_br ?_
                refine ex_tr ?_
                cases h
                refine Says.ex (S' := [(4, I v_t21), (5, Er TE v_r23)]) (O' := []) (says_pick [1, 0] [] rfl rfl) ?_
                exact ex_done (.inl rfl) rfl (fun a w G V hs _ hS => resM rfl (.tmp (.tmp 0 rfl) (.tmp (.tmp 1 rfl) .nil)) a w G V hs hS)
              · have h := ite_f hc h
                refine cw_skip ?_
                refine ex_kx (hK90 _ _ ?_)
                refine cw_block ?_
                refine cw_seq fun K94 hK94 => ?_
                refine cw_region ?_
                refine nx_o (op_fieldVar (.tmp 3 rfl) 0 rfl o146_1) rfl ?_
                refine nx_o (op_loadV (.tmp 0 rfl) 0 rfl rfl a3) rfl ?_
                refine nx_o (op_lss (.tmp 0 rfl) (Can.int _ _ _)) rfl ?_
                refine nx_o (op_move (.tmp 0 rfl)) rfl ?_
                refine nx_g (opy_guard (cc := (!(decide (v_y22.target < (-1000))))) (.plain 0 rfl) rfl rfl (fun hg => (op_fieldVar (.tmp 7 rfl) 0 rfl o146_1))) rfl ?_
                refine nx_g (opy_guard (cc := (!(decide (v_y22.target < (-1000))))) (.plain 1 rfl) rfl rfl (fun hg => (op_loadV (.cd 0 rfl hg) 0 rfl rfl a3))) rfl ?_
                refine nx_g (opy_guard (cc := (!(decide (v_y22.target < (-1000))))) (.plain 2 rfl) rfl rfl (fun hg => (op_gtr (.cd 0 rfl hg) (Can.int _ _ _)))) rfl ?_
                refine nx_o (op_or (.tmp 3 rfl) (fun hp => (.cd 0 rfl (not_t hp)))) rfl ?_
                refine nx_o (op_assign (.tmp 0 rfl)) rfl ?_
                refine nx_nil ?_
                refine Says.ex (S' := [(41, B ((decide (v_y22.target < (-1000))) || (decide (v_y22.target > 1000)))), (6, I v_t21), (7, .ref 106), (1, I v_a2), (27, SL 2 cSample v_a1), (28, I (v_a1.length : Int)), (29, I v_t21)]) (O' := [(106, .var 146 [SL 1 cI v_y22.row, I v_y22.target])]) (says_pick [0, 11, 12, 13, 14, 15, 16] [0] rfl rfl) ?_
                refine ex_kx (hK94 _ _ ?_)
                refine cw_cond (b := ((decide (v_y22.target < (-1000))) || (decide (v_y22.target > 1000)))) (.tmp 0 rfl) (fun hc => ?_) (fun hc => ?_)
                · have h := ite_t hc h
                  refine cw_seq fun K95 hK95 => ?_
                  refine cw_region ?_
                  refine nx_o (op_move (.tmp 1 rfl)) rfl ?_
                  refine nx_o (op_mkErr (Can.int _ _ _) u123 (fun _ h => by cases h)) rfl ?_
                  refine nx_o (op_assign (.tmp 1 rfl)) rfl ?_
                  refine nx_o (op_assign (.tmp 1 rfl)) rfl ?_
                  refine nx_nil ?_
                  refine Says.ex (S' := [(5, Er TE (some 1)), (4, I v_t21)]) (O' := []) (says_pick [0, 1] [] rfl rfl) ?_
                  refine ex_kx (hK95 _ _ ?_)
                  refine cw_ret ?_
                  refine ex_br ?_
                  refine ex_br ?_
                  refine ex_tr ?_
                  refine ex_tr ?_
                  refine ex_br ?_
                  refine ex_tr ?_
                  cases h
                  refine Says.ex (S' := [(4, I v_t21), (5, Er TE (some 1))]) (O' := []) (says_pick [1, 0] [] rfl rfl) ?_
                  exact ex_done (.inl rfl) rfl (fun a w G V hs _ hS => resM rfl (.tmp (.tmp 0 rfl) (.tmp (.tmp 1 rfl) .nil)) a w G V hs hS)
                · have h := ite_f hc h
                  refine cw_seq fun K96 hK96 => ?_
                  refine cw_region ?_
                  refine nx_o (op_fieldVar (.tmp 2 rfl) 0 rfl o146_0) rfl ?_
                  refine nx_o (op_loadV (.tmp 0 rfl) 0 rfl rfl a22) rfl ?_
                  refine nx_o (op_len (.tmp 0 rfl) u22) rfl ?_
                  refine nx_o (op_move (.tmp 6 rfl)) rfl ?_
                  refine nx_o (op_neq (.tmp 1 rfl) (.tmp 0 rfl)) rfl ?_
                  refine nx_o (op_assign (.tmp 0 rfl)) rfl ?_
                  refine nx_nil ?_
                  refine Says.ex (S' := [(52, B ((v_y22.row.length : Int) != v_a2)), (6, I v_t21), (7, .ref 106), (1, I v_a2), (27, SL 2 cSample v_a1), (28, I (v_a1.length : Int)), (29, I v_t21)]) (O' := [(106, .var 146 [SL 1 cI v_y22.row, I v_y22.target])]) (says_pick [0, 7, 8, 9, 10, 11, 12] [0] rfl rfl) ?_
                  refine ex_kx (hK96 _ _ ?_)
                  refine cw_cond (b := ((v_y22.row.length : Int) != v_a2)) (.tmp 0 rfl) (fun hc => ?_) (fun hc => ?_)
                  · have h := ite_t hc h
                    refine cw_seq fun K97 hK97 => ?_
                    refine cw_region ?_
                    refine nx_o (op_move (.tmp 1 rfl)) rfl ?_
                    refine nx_o (op_mkErr (Can.int _ _ _) u123 (fun _ h => by cases h)) rfl ?_
                    refine nx_o (op_assign (.tmp 1 rfl)) rfl ?_
                    refine nx_o (op_assign (.tmp 1 rfl)) rfl ?_
                    refine nx_nil ?_
                    refine Says.ex (S' := [(5, Er TE (some 3)), (4, I v_t21)]) (O' := []) (says_pick [0, 1] [] rfl rfl) ?_
                    refine ex_kx (hK97 _ _ ?_)
                    refine cw_ret ?_
                    refine ex_br ?_
                    refine ex_br ?_
                    refine ex_tr ?_
                    refine ex_tr ?_
                    refine ex_br ?_
                    refine ex_tr ?_
                    cases h
                    refine Says.ex (S' := [(4, I v_t21), (5, Er TE (some 3))]) (O' := []) (says_pick [1, 0] [] rfl rfl) ?_
                    exact ex_done (.inl rfl) rfl (fun a w G V hs _ hS => resM rfl (.tmp (.tmp 0 rfl) (.tmp (.tmp 1 rfl) .nil)) a w G V hs hS)
                  · have h := ite_f hc h
                    refine cw_seq fun K98 hK98 => ?_
                    refine cw_region ?_
                    refine nx_o (op_fieldVar (.tmp 2 rfl) 0 rfl o146_0) rfl ?_
                    refine nx_o (op_loadV (.tmp 0 rfl) 0 rfl rfl a22) rfl ?_
                    obtain ⟨v_r24, hv_r24, h⟩ := bnd h
                    refine nx_o (op_call0 (show Fn Go.Proofs.Tryd.prog 98 [SL 1 cI v_y22.row, I (-1125899906842624)] [] (B v_r24) [] from (f98_fn N v_y22.row (-1125899906842624) _ hv_r24)) c98 (.cons (.tmp 0 rfl) (.cons (Can.int _ _ _) .nil))) rfl ?_
                    refine nx_o (op_assign (.tmp 0 rfl)) rfl ?_
                    refine nx_nil ?_
                    refine Says.ex (S' := [(60, B v_r24), (6, I v_t21), (1, I v_a2), (27, SL 2 cSample v_a1), (28, I (v_a1.length : Int)), (29, I v_t21)]) (O' := []) (says_pick [0, 5, 7, 8, 9, 10] [] rfl rfl) ?_
                    refine ex_kx (hK98 _ _ ?_)
                    refine cw_cond (b := v_r24) (.tmp 0 rfl) (fun hc => ?_) (fun hc => ?_)
                    · have h := ite_t hc h
                      refine cw_seq fun K99 hK99 => ?_
                      refine cw_region ?_
                      refine nx_o (op_move (.tmp 1 rfl)) rfl ?_
                      refine nx_o (op_mkErr (Can.int _ _ _) u123 (fun _ h => by cases h)) rfl ?_
                      refine nx_o (op_assign (.tmp 1 rfl)) rfl ?_
                      refine nx_o (op_assign (.tmp 1 rfl)) rfl ?_
                      refine nx_nil ?_
                      refine Says.ex (S' := [(5, Er TE (some 5)), (4, I v_t21)]) (O' := []) (says_pick [0, 1] [] rfl rfl) ?_
                      refine ex_kx (hK99 _ _ ?_)
                      refine cw_ret ?_
                      refine ex_br ?_
                      refine ex_br ?_
                      refine ex_tr ?_
                      refine ex_tr ?_
                      refine ex_br ?_
                      refine ex_tr ?_
                      cases h
                      refine Says.ex (S' := [(4, I v_t21), (5, Er TE (some 5))]) (O' := []) (says_pick [1, 0] [] rfl rfl) ?_
                      exact ex_done (.inl rfl) rfl (fun a w G V hs _ hS => resM rfl (.tmp (.tmp 0 rfl) (.tmp (.tmp 1 rfl) .nil)) a w G V hs hS)
                    · have h := ite_f hc h
                      refine cw_skip ?_
                      refine ex_bn ?_
                      refine ex_bn ?_
                      refine ex_kx (hK88 _ _ ?_)
                      refine cw_region ?_
                      refine nx_o (op_add (.tmp 5 rfl) (Can.int _ _ _)) rfl ?_
                      refine nx_k [0, 1, 2, 3, 4, 5] (op_move (.tmp 0 rfl)) rfl rfl ?_
                      show Nx _ _ _ _ _ [(29, I (w64 (v_t21 + 1))), (66, I (w64 (v_t21 + 1))), (60, B v_r24), (6, I v_t21), (1, I v_a2), (27, SL 2 cSample v_a1), (28, I (v_a1.length : Int))] []
                      refine nx_nil ?_
                      refine Says.ex (S' := [(29, I (w64 (v_t21 + 1))), (1, I v_a2), (27, SL 2 cSample v_a1), (28, I (v_a1.length : Int))]) (O' := []) (says_pick [0, 4, 5, 6] [] rfl rfl) ?_
                      refine ex_kx ?_
                      refine Says.kx (S' := [(1, I v_a2), (27, SL 2 cSample v_a1), (28, I (v_a1.length : Int)), (29, I (w64 (v_t21 + 1)))]) (O' := []) (says_pick [1, 2, 3, 0] [] rfl rfl) ?_
                      exact hK85 _ _ ⟨w64 (v_t21 + 1), h, rfl, rfl⟩
            · have h := ite_f hc h
              refine cw_exit ?_
              refine ex_te ?_
              refine ex_te ?_
              refine ex_be ?_
              refine ex_kx ?_
              refine Says.kx (S' := []) (O' := []) (says_pick [] [] rfl rfl) ?_
              exact hK54 _ _ ⟨h, rfl, rfl⟩

end Go.Dl
