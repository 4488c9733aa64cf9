/- Printed by wip/gen: the calls compute it. -/
import Derived.Test.YtbalmknhjokgaaaDW0
set_option linter.unusedVariables false
set_option maxRecDepth 4000
set_option maxHeartbeats 2000000
namespace Go.Dl
open Go

theorem f62_fn (N : Nat) (v_a1 : List Sample) (v_a2 : Int) (v_a3 : Int) (r : Int × Int) (h : grow_best N v_a1 v_a2 v_a3 = some r) : Fn Go.Proofs.Try.prog 62 [SL 2 cSample v_a1, I v_a2, I v_a3] [] (.tup [I r.1, I r.2]) [] := by
  unfold grow_best at h
  refine fn_intro [] fun62 rfl rfl (Nat.le_of_ble_eq_true rfl) rfl rfl (fun w G V => ?_)
  show Cw _ _ _ _ [(0, SL 2 cSample v_a1), (1, I v_a2), (2, I v_a3)] []
  refine cw_seq fun K1 hK1 => ?_
  refine cw_region ?_
  refine nx_o (op_assign (Can.int _ _ _)) rfl ?_
  refine nx_o (op_assign (Can.int _ _ _)) rfl ?_
  refine nx_nil ?_
  refine Says.ex (S' := [(7, I 0), (0, SL 2 cSample v_a1), (1, I v_a2), (2, I v_a3)]) (O' := []) (says_pick [0, 2, 3, 4] [] rfl rfl) ?_
  refine ex_kx (hK1 _ _ ?_)
  refine cw_seq fun K2 hK2 => ?_
  refine cw_region ?_
  refine nx_o (op_assign (Can.int _ _ _)) rfl ?_
  refine nx_nil ?_
  refine ex_kx (hK2 _ _ ?_)
  refine cw_seq fun K3 hK3 => ?_
  refine cw_region ?_
  refine nx_o (op_move (.tmp 2 rfl)) rfl ?_
  obtain ⟨v_r4, hv_r4, h⟩ := bnd h
  refine nx_o (op_call0 (show Fn Go.Proofs.Try.prog 83 [SL 2 cSample v_a1] [] (I v_r4) [] from (f83_fn N v_a1 _ hv_r4)) c83 (.cons (.tmp 0 rfl) .nil)) rfl ?_
  refine nx_o (op_move (.tmp 4 rfl)) rfl ?_
  obtain ⟨v_r5, hv_r5, h⟩ := bnd h
  refine nx_o (op_call0 (show Fn Go.Proofs.Try.prog 83 [SL 2 cSample v_a1] [] (I v_r5) [] from (f83_fn N v_a1 _ hv_r5)) c83 (.cons (.tmp 0 rfl) .nil)) rfl ?_
  refine nx_o (op_mul (.tmp 2 rfl) (.tmp 0 rfl)) rfl ?_
  refine nx_o (op_move (.tmp 7 rfl)) rfl ?_
  refine nx_o (op_len (.tmp 0 rfl) u22) rfl ?_
  refine nx_o (op_assign (.tmp 2 rfl)) rfl ?_
  refine nx_o (op_assign (.tmp 1 rfl)) rfl ?_
  refine nx_nil ?_
  refine Says.ex (S' := [(9, I (v_a1.length : Int)), (8, I (w64 (v_r4 * v_r5))), (6, I (-1)), (7, I 0), (0, SL 2 cSample v_a1), (1, I v_a2), (2, I v_a3)]) (O' := []) (says_pick [0, 1, 9, 10, 11, 12, 13] [] rfl rfl) ?_
  refine ex_kx (hK3 _ _ ?_)
  refine cw_join (fun S O => ∃ (v_t430 : Int) (v_t431 : Int), grow_best_j1 N v_t430 v_t431 = some r ∧ S = [(6, I v_t430), (7, I v_t431)] ∧ O = []) ?_ (fun K427 hK427 => ?_)
  · rintro S O ⟨v_t430, v_t431, h, rfl, rfl⟩
    unfold grow_best_j1 at h
    refine cw_seq fun K428 hK428 => ?_
    refine cw_region ?_
    refine nx_o (op_move (.tmp 0 rfl)) rfl ?_
    refine nx_o (op_move (.tmp 2 rfl)) rfl ?_
    refine nx_k [0, 1, 3] (op_assign (.tmp 1 rfl)) rfl rfl ?_
    show Nx _ _ _ _ _ [(6, I v_t430), (112, I v_t431), (111, I v_t430), (7, I v_t431)] []
    refine nx_k [0, 1, 2] (op_assign (.tmp 1 rfl)) rfl rfl ?_
    show Nx _ _ _ _ _ [(7, I v_t431), (6, I v_t430), (112, I v_t431), (111, I v_t430)] []
    refine nx_nil ?_
    refine Says.ex (S' := [(7, I v_t431), (6, I v_t430)]) (O' := []) (says_pick [0, 1] [] rfl rfl) ?_
    refine ex_kx (hK428 _ _ ?_)
    refine cw_ret ?_
    cases h
    refine Says.ex (S' := [(6, I v_t430), (7, I v_t431)]) (O' := []) (says_pick [1, 0] [] rfl rfl) ?_
    exact ex_done (.inl rfl) rfl (fun a w G V hs _ hS => resM rfl (.tmp (.tmp 0 rfl) (.tmp (.tmp 1 rfl) .nil)) a w G V hs hS)
  ·
    refine cw_seq fun K429 hK429 => ?_
    refine cw_region ?_
    refine nx_o (op_move (.tmp 5 rfl)) rfl ?_
    refine nx_o (op_move (Can.int _ _ _)) rfl ?_
    refine nx_nil ?_
    refine Says.ex (S' := [(28, I 0), (27, I v_a2), (9, I (v_a1.length : Int)), (8, I (w64 (v_r4 * v_r5))), (6, I (-1)), (7, I 0), (0, SL 2 cSample v_a1), (2, I v_a3)]) (O' := []) (says_pick [0, 1, 2, 3, 4, 5, 6, 8] [] rfl rfl) ?_
    refine ex_kx (hK429 _ _ ?_)
    refine cw_block ?_
    refine Says.cw (S' := [(0, SL 2 cSample v_a1), (2, I v_a3), (6, I (-1)), (7, I 0), (8, I (w64 (v_r4 * v_r5))), (9, I (v_a1.length : Int)), (27, I v_a2), (28, I 0)]) (O' := []) (says_pick [6, 7, 4, 5, 3, 2, 1, 0] [] rfl rfl) ?_
    refine cw_loopJ (fun n S O => ∃ (v_t715 : Int) (v_t716 : Int) (v_t717 : Int) (v_t718 : Int) (v_t719 : Int), grow_best_l1 N v_a2 v_a1 v_a3 n v_t715 v_t716 v_t717 v_t718 v_t719 = some r ∧ S = [(0, SL 2 cSample v_a1), (2, I v_a3), (6, I v_t715), (7, I v_t716), (8, I v_t717), (9, I v_t718), (27, I v_a2), (28, I v_t719)] ∧ O = []) ?_ ?_ N ⟨(-1), 0, w64 (v_r4 * v_r5), (v_a1.length : Int), 0, h, rfl, rfl⟩
    · rintro S O ⟨v_t715, v_t716, v_t717, v_t718, v_t719, h, -, -⟩
      simp [grow_best_l1] at h
    · rintro n_1 S O ⟨v_t715, v_t716, v_t717, v_t718, v_t719, h, rfl, rfl⟩ K710 hK710
      rw [grow_best_l1] at h
      refine cw_seq fun K711 hK711 => ?_
      refine cw_region ?_
      refine nx_o (op_lss (.tmp 7 rfl) (.tmp 6 rfl)) rfl ?_
      refine nx_nil ?_
      refine ex_kx (hK711 _ _ ?_)
      refine cw_seq fun K712 hK712 => ?_
      refine cw_cond (b := (decide (v_t719 < v_a2))) (.tmp 0 rfl) (fun hc => ?_) (fun hc => ?_)
      · have h := ite_t hc h
        refine cw_skip ?_
        refine ex_kx (hK712 _ _ ?_)
        refine cw_join (fun S O => ∃ (v_t787 : Int) (v_t788 : Int) (v_t789 : Int) (v_t790 : Int), grow_best_j2 N (grow_best_l1 N v_a2 v_a1 v_a3 n_1) v_t719 v_t787 v_t788 v_t789 v_t790 = some r ∧ S = [(0, SL 2 cSample v_a1), (2, I v_a3), (6, I v_t787), (7, I v_t788), (8, I v_t789), (9, I v_t790), (27, I v_a2), (28, I v_t719)] ∧ O = []) ?_ (fun K781 hK781 => ?_)
        · rintro S O ⟨v_t787, v_t788, v_t789, v_t790, h, rfl, rfl⟩
          unfold grow_best_j2 at h
          refine cw_region ?_
          refine nx_o (op_add (.tmp 7 rfl) (Can.int _ _ _)) rfl ?_
          refine nx_k [0, 1, 2, 3, 4, 5, 6, 7] (op_move (.tmp 0 rfl)) rfl rfl ?_
          show Nx _ _ _ _ _ [(28, I (w64 (v_t719 + 1))), (110, I (w64 (v_t719 + 1))), (0, SL 2 cSample v_a1), (2, I v_a3), (6, I v_t787), (7, I v_t788), (8, I v_t789), (9, I v_t790), (27, I v_a2)] []
          refine nx_nil ?_
          refine Says.ex (S' := [(28, I (w64 (v_t719 + 1))), (0, SL 2 cSample v_a1), (2, I v_a3), (6, I v_t787), (7, I v_t788), (8, I v_t789), (9, I v_t790), (27, I v_a2)]) (O' := []) (says_pick [0, 2, 3, 4, 5, 6, 7, 8] [] rfl rfl) ?_
          refine ex_kx ?_
          refine Says.kx (S' := [(0, SL 2 cSample v_a1), (2, I v_a3), (6, I v_t787), (7, I v_t788), (8, I v_t789), (9, I v_t790), (27, I v_a2), (28, I (w64 (v_t719 + 1)))]) (O' := []) (says_pick [1, 2, 3, 4, 5, 6, 7, 0] [] rfl rfl) ?_
          exact hK710 _ _ ⟨v_t787, v_t788, v_t789, v_t790, w64 (v_t719 + 1), h, rfl, rfl⟩
        ·
          refine cw_block ?_
          refine cw_seq fun K782 hK782 => ?_
          refine cw_region ?_
          refine nx_o (op_move (.tmp 8 rfl)) rfl ?_
          refine nx_o (op_assign (.tmp 0 rfl)) rfl ?_
          refine nx_nil ?_
          refine Says.ex (S' := [(10, I v_t719), (0, SL 2 cSample v_a1), (2, I v_a3), (6, I v_t715), (7, I v_t716), (8, I v_t717), (9, I v_t718), (27, I v_a2), (28, I v_t719)]) (O' := []) (says_pick [0, 3, 4, 5, 6, 7, 8, 9, 10] [] rfl rfl) ?_
          refine ex_kx (hK782 _ _ ?_)
          refine cw_seq fun K783 hK783 => ?_
          refine cw_region ?_
          refine nx_o (op_assign (Can.raw _ _)) rfl ?_
          refine nx_nil ?_
          refine ex_kx (hK783 _ _ ?_)
          refine cw_join (fun S O => ∃ (v_t804 : List Int), grow_best_j3 N v_a1 v_t719 v_a3 (grow_best_l1 N v_a2 v_a1 v_a3 n_1) v_t715 v_t716 v_t717 v_t718 v_t804 = some r ∧ S = [(0, SL 2 cSample v_a1), (2, I v_a3), (6, I v_t715), (7, I v_t716), (8, I v_t717), (9, I v_t718), (10, I v_t719), (11, .ref 268), (27, I v_a2), (28, I v_t719)] ∧ O = [(268, .row 3 1 cI v_t804)]) ?_ (fun K799 hK799 => ?_)
          · rintro S O ⟨v_t804, h, rfl, rfl⟩
            unfold grow_best_j3 at h
            refine cw_seq fun K800 hK800 => ?_
            refine cw_region ?_
            refine nx_o (op_move (.tmp 7 rfl)) rfl ?_
            obtain ⟨v_r805, hv_r805, h⟩ := bnd h
            refine nx_op (op_call (show Fn Go.Proofs.Try.prog 106 [.ref 268] [(268, .row 3 1 cI v_t804)] (.tup []) [(268, .row 3 1 cI v_r805)] from (Fn.swap (f106_fn N v_t804 _ hv_r805) 1 268)) c106 (.cons (.tmp 0 rfl) .nil) [0] rfl rfl rfl rfl rfl rfl) rfl ?_
            show Nx _ _ _ _ _ [(47, .tup []), (46, .ref 268), (0, SL 2 cSample v_a1), (2, I v_a3), (6, I v_t715), (7, I v_t716), (8, I v_t717), (9, I v_t718), (10, I v_t719), (11, .ref 268), (27, I v_a2), (28, I v_t719)] [(268, .row 3 1 cI v_r805)]
            refine nx_nil ?_
            refine Says.ex (S' := [(0, SL 2 cSample v_a1), (2, I v_a3), (6, I v_t715), (7, I v_t716), (8, I v_t717), (9, I v_t718), (10, I v_t719), (11, .ref 268), (27, I v_a2), (28, I v_t719)]) (O' := [(268, .row 3 1 cI v_r805)]) (says_pick [2, 3, 4, 5, 6, 7, 8, 9, 10, 11] [0] rfl rfl) ?_
            refine ex_kx (hK800 _ _ ?_)
            refine cw_seq fun K801 hK801 => ?_
            refine cw_region ?_
            refine nx_o (op_move (.tmp 7 rfl)) rfl ?_
            refine Says.nx (says_less 11 8 rfl (.hdr 0 rfl) rfl) ?_
            show Nx _ _ _ _ _ [(48, .ref 268), (0, SL 2 cSample v_a1), (2, I v_a3), (6, I v_t715), (7, I v_t716), (8, I v_t717), (9, I v_t718), (10, I v_t719), (11, .hdr v_r805.length), (27, I v_a2), (28, I v_t719)] [(268, .row 3 1 cI v_r805)]
            obtain ⟨v_r806, hv_r806, h⟩ := bnd h
            refine nx_k [1, 2, 3, 4, 5, 6, 7, 8, 9, 10] (op_call (show Fn Go.Proofs.Try.prog 107 [.ref 268] [(268, .row 3 1 cI v_r805)] (.ref 273) [(273, .row 3 1 cI v_r806)] from (Fn.swap (Fn.swap (f107_fn N v_r805 _ hv_r806) 11 273) 1 268)) c107 (.cons (.tmp 0 rfl) .nil) [0] rfl rfl rfl rfl rfl rfl) rfl rfl ?_
            show Nx _ _ _ _ _ [(49, .ref 273), (0, SL 2 cSample v_a1), (2, I v_a3), (6, I v_t715), (7, I v_t716), (8, I v_t717), (9, I v_t718), (10, I v_t719), (11, .hdr v_r805.length), (27, I v_a2), (28, I v_t719)] [(273, .row 3 1 cI v_r806)]
            refine nx_o (op_move (.tmp 8 rfl)) rfl ?_
            refine nx_o (op_lenH (.tmp 0 rfl) u23) rfl ?_
            refine nx_o (op_min (Can.int _ _ _) (.tmp 0 rfl)) rfl ?_
            refine Says.nx (says_freezeRow (k := 273) 0 rfl rfl (fun _ => rfl) rfl rfl) ?_
            show Nx _ _ _ _ _ [(52, I (min 1 (v_r805.length : Int))), (51, I (v_r805.length : Int)), (50, .hdr v_r805.length), (49, SL 1 cI v_r806), (0, SL 2 cSample v_a1), (2, I v_a3), (6, I v_t715), (7, I v_t716), (8, I v_t717), (9, I v_t718), (10, I v_t719), (11, .hdr v_r805.length), (27, I v_a2), (28, I v_t719)] []
            obtain ⟨v_t807, hv_t807, h⟩ := bnd h
            refine nx_o (op_sliceLo hv_t807 (.tmp 3 rfl) (.tmp 0 rfl) u23 s3) rfl ?_
            refine nx_o (op_len (.tmp 0 rfl) u23) rfl ?_
            refine nx_o (op_move (Can.int _ _ _)) rfl ?_
            refine nx_nil ?_
            refine Says.ex (S' := [(55, I 0), (54, I (v_t807.length : Int)), (53, SL 1 cI v_t807), (0, SL 2 cSample v_a1), (2, I v_a3), (6, I v_t715), (7, I v_t716), (8, I v_t717), (9, I v_t718), (10, I v_t719), (27, I v_a2), (28, I v_t719)]) (O' := []) (says_pick [0, 1, 2, 7, 8, 9, 10, 11, 12, 13, 15, 16] [] rfl rfl) ?_
            refine ex_kx (hK801 _ _ ?_)
            refine cw_block ?_
            refine Says.cw (S' := [(0, SL 2 cSample v_a1), (2, I v_a3), (6, I v_t715), (7, I v_t716), (8, I v_t717), (9, I v_t718), (10, I v_t719), (27, I v_a2), (28, I v_t719), (53, SL 1 cI v_t807), (54, I (v_t807.length : Int)), (55, I 0)]) (O' := []) (says_pick [3, 4, 5, 6, 7, 8, 9, 10, 11, 2, 1, 0] [] rfl rfl) ?_
            refine cw_loopJ (fun n S O => ∃ (v_t831 : Int) (v_t832 : Int) (v_t833 : Int) (v_t834 : Int) (v_t835 : Int), grow_best_l2 N v_t807 v_a1 v_t719 v_a3 (grow_best_l1 N v_a2 v_a1 v_a3 n_1) n v_t831 v_t832 v_t833 v_t834 v_t835 = some r ∧ S = [(0, SL 2 cSample v_a1), (2, I v_a3), (6, I v_t831), (7, I v_t832), (8, I v_t833), (9, I v_t834), (10, I v_t719), (27, I v_a2), (28, I v_t719), (53, SL 1 cI v_t807), (54, I (v_t807.length : Int)), (55, I v_t835)] ∧ O = []) ?_ ?_ N ⟨v_t715, v_t716, v_t717, v_t718, 0, h, rfl, rfl⟩
            · rintro S O ⟨v_t831, v_t832, v_t833, v_t834, v_t835, h, -, -⟩
              simp [grow_best_l2] at h
            · rintro n_2 S O ⟨v_t831, v_t832, v_t833, v_t834, v_t835, h, rfl, rfl⟩ K822 hK822
              rw [grow_best_l2] at h
              refine cw_seq fun K823 hK823 => ?_
              refine cw_region ?_
              refine nx_o (op_lss (.tmp 11 rfl) (.tmp 10 rfl)) rfl ?_
              refine nx_nil ?_
              refine ex_kx (hK823 _ _ ?_)
              refine cw_seq fun K824 hK824 => ?_
              refine cw_cond (b := (decide (v_t835 < (v_t807.length : Int)))) (.tmp 0 rfl) (fun hc => ?_) (fun hc => ?_)
              · have h := ite_t hc h
                refine cw_skip ?_
                refine ex_kx (hK824 _ _ ?_)
                refine cw_seq fun K825 hK825 => ?_
                refine cw_block ?_
                refine cw_seq fun K826 hK826 => ?_
                refine cw_region ?_
                obtain ⟨v_y836, hv_y836, h⟩ := bnd h
                refine nx_o (op_indexX hv_y836 (.tmp 10 rfl) (.tmp 12 rfl) u23 s3) rfl ?_
                refine nx_o (op_load1 (.tmp 0 rfl) a3) rfl ?_
                refine nx_o (op_assign (.tmp 0 rfl)) rfl ?_
                refine nx_nil ?_
                refine Says.ex (S' := [(15, I v_y836), (0, SL 2 cSample v_a1), (2, I v_a3), (6, I v_t831), (7, I v_t832), (8, I v_t833), (9, I v_t834), (10, I v_t719), (27, I v_a2), (28, I v_t719), (53, SL 1 cI v_t807), (54, I (v_t807.length : Int)), (55, I v_t835)]) (O' := []) (says_pick [0, 4, 5, 6, 7, 8, 9, 10, 11, 12, 13, 14, 15] [] rfl rfl) ?_
                refine ex_kx (hK826 _ _ ?_)
                refine cw_seq fun K827 hK827 => ?_
                refine cw_region ?_
                refine nx_o (op_move (.tmp 1 rfl)) rfl ?_
                refine nx_o (op_move (.tmp 8 rfl)) rfl ?_
                refine nx_o (op_move (.tmp 2 rfl)) rfl ?_
                obtain ⟨v_r837, hv_r837, h⟩ := bnd h
                refine nx_o (op_call0 (show Fn Go.Proofs.Try.prog 84 [SL 2 cSample v_a1, I v_t719, I v_y836] [] (.tup [SL 2 cSample v_r837.1, SL 2 cSample v_r837.2]) [] from (f84_fn N v_a1 v_t719 v_y836 _ hv_r837)) c84 (.cons (.tmp 2 rfl) (.cons (.tmp 1 rfl) (.cons (.tmp 0 rfl) .nil)))) rfl ?_
                refine nx_o (op_move (.tmp 0 rfl)) rfl ?_
                refine nx_o (op_extract (.tmp 0 rfl) rfl) rfl ?_
                refine nx_o (op_extract (.tmp 1 rfl) rfl) rfl ?_
                refine nx_o (op_assign (.tmp 1 rfl)) rfl ?_
                refine nx_o (op_assign (.tmp 1 rfl)) rfl ?_
                refine nx_nil ?_
                refine Says.ex (S' := [(17, SL 2 cSample v_r837.2), (16, SL 2 cSample v_r837.1), (15, I v_y836), (0, SL 2 cSample v_a1), (2, I v_a3), (6, I v_t831), (7, I v_t832), (8, I v_t833), (9, I v_t834), (10, I v_t719), (27, I v_a2), (28, I v_t719), (53, SL 1 cI v_t807), (54, I (v_t807.length : Int)), (55, I v_t835)]) (O' := []) (says_pick [0, 1, 9, 10, 11, 12, 13, 14, 15, 16, 17, 18, 19, 20, 21] [] rfl rfl) ?_
                refine ex_kx (hK827 _ _ ?_)
                refine cw_seq fun K828 hK828 => ?_
                refine cw_seq fun K829 hK829 => ?_
                refine cw_region ?_
                refine nx_o (op_move (.tmp 1 rfl)) rfl ?_
                refine nx_o (op_len (.tmp 0 rfl) u22) rfl ?_
                refine nx_o (op_move (.tmp 6 rfl)) rfl ?_
                refine nx_o (op_lss (.tmp 1 rfl) (.tmp 0 rfl)) rfl ?_
                refine nx_o (op_move (.tmp 0 rfl)) rfl ?_
                refine nx_g (opy_guard (cc := (!(decide ((v_r837.1.length : Int) < v_a3)))) (.plain 0 rfl) rfl rfl (fun hg => (op_move (.tmp 5 rfl)))) rfl ?_
                refine nx_g (opy_guard (cc := (!(decide ((v_r837.1.length : Int) < v_a3)))) (.plain 1 rfl) rfl rfl (fun hg => (op_len (.cd 0 rfl hg) u22))) rfl ?_
                refine nx_g (opy_guard (cc := (!(decide ((v_r837.1.length : Int) < v_a3)))) (.plain 2 rfl) rfl rfl (fun hg => (op_move (.tmp 11 rfl)))) rfl ?_
                refine nx_g (opy_guard (cc := (!(decide ((v_r837.1.length : Int) < v_a3)))) (.plain 3 rfl) rfl rfl (fun hg => (op_lss (.cd 1 rfl hg) (.cd 0 rfl hg)))) rfl ?_
                refine nx_o (op_or (.tmp 4 rfl) (fun hp => (.cd 0 rfl (not_t hp)))) rfl ?_
                refine nx_nil ?_
                refine Says.ex (S' := [(75, B ((decide ((v_r837.1.length : Int) < v_a3)) || (decide ((v_r837.2.length : Int) < v_a3)))), (17, SL 2 cSample v_r837.2), (16, SL 2 cSample v_r837.1), (15, I v_y836), (0, SL 2 cSample v_a1), (2, I v_a3), (6, I v_t831), (7, I v_t832), (8, I v_t833), (9, I v_t834), (10, I v_t719), (27, I v_a2), (28, I v_t719), (53, SL 1 cI v_t807), (54, I (v_t807.length : Int)), (55, I v_t835)]) (O' := []) (says_pick [0, 10, 11, 12, 13, 14, 15, 16, 17, 18, 19, 20, 21, 22, 23, 24] [] rfl rfl) ?_
                refine ex_kx (hK829 _ _ ?_)
                refine cw_cond (b := ((decide ((v_r837.1.length : Int) < v_a3)) || (decide ((v_r837.2.length : Int) < v_a3)))) (.tmp 0 rfl) (fun hc => ?_) (fun hc => ?_)
                · have h := ite_t hc h
                  refine cw_exit ?_
                  refine ex_te ?_
                  refine ex_be ?_
                  refine ex_kx (hK825 _ _ ?_)
                  refine cw_region ?_
                  refine nx_o (op_add (.tmp 15 rfl) (Can.int _ _ _)) rfl ?_
                  refine nx_k [0, 1, 2, 3, 4, 5, 6, 7, 8, 9, 10, 11, 12, 13, 14, 15] (op_move (.tmp 0 rfl)) rfl rfl ?_
                  show Nx _ _ _ _ _ [(55, I (w64 (v_t835 + 1))), (109, I (w64 (v_t835 + 1))), (75, B ((decide ((v_r837.1.length : Int) < v_a3)) || (decide ((v_r837.2.length : Int) < v_a3)))), (17, SL 2 cSample v_r837.2), (16, SL 2 cSample v_r837.1), (15, I v_y836), (0, SL 2 cSample v_a1), (2, I v_a3), (6, I v_t831), (7, I v_t832), (8, I v_t833), (9, I v_t834), (10, I v_t719), (27, I v_a2), (28, I v_t719), (53, SL 1 cI v_t807), (54, I (v_t807.length : Int))] []
                  refine nx_nil ?_
                  refine Says.ex (S' := [(55, I (w64 (v_t835 + 1))), (0, SL 2 cSample v_a1), (2, I v_a3), (6, I v_t831), (7, I v_t832), (8, I v_t833), (9, I v_t834), (10, I v_t719), (27, I v_a2), (28, I v_t719), (53, SL 1 cI v_t807), (54, I (v_t807.length : Int))]) (O' := []) (says_pick [0, 6, 7, 8, 9, 10, 11, 12, 13, 14, 15, 16] [] rfl rfl) ?_
                  refine ex_kx ?_
                  refine Says.kx (S' := [(0, SL 2 cSample v_a1), (2, I v_a3), (6, I v_t831), (7, I v_t832), (8, I v_t833), (9, I v_t834), (10, I v_t719), (27, I v_a2), (28, I v_t719), (53, SL 1 cI v_t807), (54, I (v_t807.length : Int)), (55, I (w64 (v_t835 + 1)))]) (O' := []) (says_pick [1, 2, 3, 4, 5, 6, 7, 8, 9, 10, 11, 0] [] rfl rfl) ?_
                  exact hK822 _ _ ⟨v_t831, v_t832, v_t833, v_t834, w64 (v_t835 + 1), h, rfl, rfl⟩
                · have h := ite_f hc h
                  refine cw_skip ?_
                  refine ex_kx (hK828 _ _ ?_)
                  refine cw_seq fun K830 hK830 => ?_
                  refine cw_region ?_
                  refine nx_o (op_move (.tmp 2 rfl)) rfl ?_
                  obtain ⟨v_r838, hv_r838, h⟩ := bnd h
                  refine nx_o (op_call0 (show Fn Go.Proofs.Try.prog 83 [SL 2 cSample v_r837.1] [] (I v_r838) [] from (f83_fn N v_r837.1 _ hv_r838)) c83 (.cons (.tmp 0 rfl) .nil)) rfl ?_
                  refine nx_o (op_move (.tmp 4 rfl)) rfl ?_
                  obtain ⟨v_r839, hv_r839, h⟩ := bnd h
                  refine nx_o (op_call0 (show Fn Go.Proofs.Try.prog 83 [SL 2 cSample v_r837.1] [] (I v_r839) [] from (f83_fn N v_r837.1 _ hv_r839)) c83 (.cons (.tmp 0 rfl) .nil)) rfl ?_
                  refine nx_o (op_mul (.tmp 2 rfl) (.tmp 0 rfl)) rfl ?_
                  refine nx_o (op_move (.tmp 6 rfl)) rfl ?_
                  refine nx_o (op_len (.tmp 0 rfl) u22) rfl ?_
                  obtain ⟨v_t840, hv_t840, h⟩ := bnd h
                  refine nx_o (OpX.named hv_t840 (op_mul (.tmp 2 rfl) (.tmp 0 rfl))) rfl ?_
                  refine nx_o (op_move (.tmp 9 rfl)) rfl ?_
                  obtain ⟨v_r841, hv_r841, h⟩ := bnd h
                  refine nx_o (op_call0 (show Fn Go.Proofs.Try.prog 83 [SL 2 cSample v_r837.2] [] (I v_r841) [] from (f83_fn N v_r837.2 _ hv_r841)) c83 (.cons (.tmp 0 rfl) .nil)) rfl ?_
                  refine nx_o (op_move (.tmp 11 rfl)) rfl ?_
                  obtain ⟨v_r842, hv_r842, h⟩ := bnd h
                  refine nx_o (op_call0 (show Fn Go.Proofs.Try.prog 83 [SL 2 cSample v_r837.2] [] (I v_r842) [] from (f83_fn N v_r837.2 _ hv_r842)) c83 (.cons (.tmp 0 rfl) .nil)) rfl ?_
                  refine nx_o (op_mul (.tmp 2 rfl) (.tmp 0 rfl)) rfl ?_
                  refine nx_o (op_move (.tmp 15 rfl)) rfl ?_
                  refine nx_o (op_len (.tmp 0 rfl) u22) rfl ?_
                  obtain ⟨v_t843, hv_t843, h⟩ := bnd h
                  refine nx_o (OpX.named hv_t843 (op_mul (.tmp 2 rfl) (.tmp 0 rfl))) rfl ?_
                  refine nx_o (op_add (.tmp 8 rfl) (.tmp 0 rfl)) rfl ?_
                  refine nx_o (op_assign (.tmp 0 rfl)) rfl ?_
                  refine nx_nil ?_
                  refine Says.ex (S' := [(18, I (w64 (v_t840 + v_t843))), (17, SL 2 cSample v_r837.2), (16, SL 2 cSample v_r837.1), (15, I v_y836), (0, SL 2 cSample v_a1), (2, I v_a3), (6, I v_t831), (7, I v_t832), (8, I v_t833), (9, I v_t834), (10, I v_t719), (27, I v_a2), (28, I v_t719), (53, SL 1 cI v_t807), (54, I (v_t807.length : Int)), (55, I v_t835)]) (O' := []) (says_pick [0, 19, 20, 21, 22, 23, 24, 25, 26, 27, 28, 29, 30, 31, 32, 33] [] rfl rfl) ?_
                  refine ex_kx (hK830 _ _ ?_)
                  refine cw_seq fun K831 hK831 => ?_
                  refine cw_region ?_
                  refine nx_o (op_move (.tmp 2 rfl)) rfl ?_
                  refine nx_o (op_len (.tmp 0 rfl) u22) rfl ?_
                  refine nx_o (op_move (.tmp 3 rfl)) rfl ?_
                  refine nx_o (op_len (.tmp 0 rfl) u22) rfl ?_
                  obtain ⟨v_t844, hv_t844, h⟩ := bnd h
                  refine nx_o (OpX.named hv_t844 (op_mul (.tmp 2 rfl) (.tmp 0 rfl))) rfl ?_
                  refine nx_o (op_assign (.tmp 0 rfl)) rfl ?_
                  refine nx_nil ?_
                  refine Says.ex (S' := [(19, I v_t844), (18, I (w64 (v_t840 + v_t843))), (15, I v_y836), (0, SL 2 cSample v_a1), (2, I v_a3), (6, I v_t831), (7, I v_t832), (8, I v_t833), (9, I v_t834), (10, I v_t719), (27, I v_a2), (28, I v_t719), (53, SL 1 cI v_t807), (54, I (v_t807.length : Int)), (55, I v_t835)]) (O' := []) (says_pick [0, 6, 9, 10, 11, 12, 13, 14, 15, 16, 17, 18, 19, 20, 21] [] rfl rfl) ?_
                  refine ex_kx (hK831 _ _ ?_)
                  refine cw_seq fun K832 hK832 => ?_
                  refine cw_region ?_
                  refine nx_o (op_move (.tmp 1 rfl)) rfl ?_
                  refine nx_o (op_move (.tmp 9 rfl)) rfl ?_
                  refine nx_o (op_mul (.tmp 1 rfl) (.tmp 0 rfl)) rfl ?_
                  refine nx_o (op_move (.tmp 10 rfl)) rfl ?_
                  refine nx_o (op_move (.tmp 4 rfl)) rfl ?_
                  refine nx_o (op_mul (.tmp 1 rfl) (.tmp 0 rfl)) rfl ?_
                  refine nx_o (op_gtr (.tmp 3 rfl) (.tmp 0 rfl)) rfl ?_
                  refine nx_nil ?_
                  refine Says.ex (S' := [(104, B (decide ((w64 ((w64 (v_t840 + v_t843)) * v_t834)) > (w64 (v_t833 * v_t844))))), (19, I v_t844), (18, I (w64 (v_t840 + v_t843))), (15, I v_y836), (0, SL 2 cSample v_a1), (2, I v_a3), (6, I v_t831), (7, I v_t832), (8, I v_t833), (9, I v_t834), (10, I v_t719), (27, I v_a2), (28, I v_t719), (53, SL 1 cI v_t807), (54, I (v_t807.length : Int)), (55, I v_t835)]) (O' := []) (says_pick [0, 7, 8, 9, 10, 11, 12, 13, 14, 15, 16, 17, 18, 19, 20, 21] [] rfl rfl) ?_
                  refine ex_kx (hK832 _ _ ?_)
                  refine cw_cond (b := (decide ((w64 ((w64 (v_t840 + v_t843)) * v_t834)) > (w64 (v_t833 * v_t844))))) (.tmp 0 rfl) (fun hc => ?_) (fun hc => ?_)
                  · have h := ite_t hc h
                    refine cw_region ?_
                    refine nx_o (op_move (.tmp 10 rfl)) rfl ?_
                    refine nx_o (op_move (.tmp 4 rfl)) rfl ?_
                    refine nx_o (op_move (.tmp 4 rfl)) rfl ?_
                    refine nx_o (op_move (.tmp 4 rfl)) rfl ?_
                    refine nx_k [0, 1, 2, 3, 4, 5, 6, 7, 8, 9, 11, 12, 13, 14, 15, 16, 17, 18, 19] (op_assign (.tmp 3 rfl)) rfl rfl ?_
                    show Nx _ _ _ _ _ [(6, I v_t719), (108, I v_t844), (107, I (w64 (v_t840 + v_t843))), (106, I v_y836), (105, I v_t719), (104, B (decide ((w64 ((w64 (v_t840 + v_t843)) * v_t834)) > (w64 (v_t833 * v_t844))))), (19, I v_t844), (18, I (w64 (v_t840 + v_t843))), (15, I v_y836), (0, SL 2 cSample v_a1), (2, I v_a3), (7, I v_t832), (8, I v_t833), (9, I v_t834), (10, I v_t719), (27, I v_a2), (28, I v_t719), (53, SL 1 cI v_t807), (54, I (v_t807.length : Int)), (55, I v_t835)] []
                    refine nx_k [0, 1, 2, 3, 4, 5, 6, 7, 8, 9, 10, 12, 13, 14, 15, 16, 17, 18, 19] (op_assign (.tmp 3 rfl)) rfl rfl ?_
                    show Nx _ _ _ _ _ [(7, I v_y836), (6, I v_t719), (108, I v_t844), (107, I (w64 (v_t840 + v_t843))), (106, I v_y836), (105, I v_t719), (104, B (decide ((w64 ((w64 (v_t840 + v_t843)) * v_t834)) > (w64 (v_t833 * v_t844))))), (19, I v_t844), (18, I (w64 (v_t840 + v_t843))), (15, I v_y836), (0, SL 2 cSample v_a1), (2, I v_a3), (8, I v_t833), (9, I v_t834), (10, I v_t719), (27, I v_a2), (28, I v_t719), (53, SL 1 cI v_t807), (54, I (v_t807.length : Int)), (55, I v_t835)] []
                    refine nx_k [0, 1, 2, 3, 4, 5, 6, 7, 8, 9, 10, 11, 13, 14, 15, 16, 17, 18, 19] (op_assign (.tmp 3 rfl)) rfl rfl ?_
                    show Nx _ _ _ _ _ [(8, I (w64 (v_t840 + v_t843))), (7, I v_y836), (6, I v_t719), (108, I v_t844), (107, I (w64 (v_t840 + v_t843))), (106, I v_y836), (105, I v_t719), (104, B (decide ((w64 ((w64 (v_t840 + v_t843)) * v_t834)) > (w64 (v_t833 * v_t844))))), (19, I v_t844), (18, I (w64 (v_t840 + v_t843))), (15, I v_y836), (0, SL 2 cSample v_a1), (2, I v_a3), (9, I v_t834), (10, I v_t719), (27, I v_a2), (28, I v_t719), (53, SL 1 cI v_t807), (54, I (v_t807.length : Int)), (55, I v_t835)] []
                    refine nx_k [0, 1, 2, 3, 4, 5, 6, 7, 8, 9, 10, 11, 12, 14, 15, 16, 17, 18, 19] (op_assign (.tmp 3 rfl)) rfl rfl ?_
                    show Nx _ _ _ _ _ [(9, I v_t844), (8, I (w64 (v_t840 + v_t843))), (7, I v_y836), (6, I v_t719), (108, I v_t844), (107, I (w64 (v_t840 + v_t843))), (106, I v_y836), (105, I v_t719), (104, B (decide ((w64 ((w64 (v_t840 + v_t843)) * v_t834)) > (w64 (v_t833 * v_t844))))), (19, I v_t844), (18, I (w64 (v_t840 + v_t843))), (15, I v_y836), (0, SL 2 cSample v_a1), (2, I v_a3), (10, I v_t719), (27, I v_a2), (28, I v_t719), (53, SL 1 cI v_t807), (54, I (v_t807.length : Int)), (55, I v_t835)] []
                    refine nx_nil ?_
                    refine Says.ex (S' := [(9, I v_t844), (8, I (w64 (v_t840 + v_t843))), (7, I v_y836), (6, I v_t719), (0, SL 2 cSample v_a1), (2, I v_a3), (10, I v_t719), (27, I v_a2), (28, I v_t719), (53, SL 1 cI v_t807), (54, I (v_t807.length : Int)), (55, I v_t835)]) (O' := []) (says_pick [0, 1, 2, 3, 12, 13, 14, 15, 16, 17, 18, 19] [] rfl rfl) ?_
                    refine ex_bn ?_
                    refine ex_kx (hK825 _ _ ?_)
                    refine cw_region ?_
                    refine nx_o (op_add (.tmp 11 rfl) (Can.int _ _ _)) rfl ?_
                    refine nx_k [0, 1, 2, 3, 4, 5, 6, 7, 8, 9, 10, 11] (op_move (.tmp 0 rfl)) rfl rfl ?_
                    show Nx _ _ _ _ _ [(55, I (w64 (v_t835 + 1))), (109, I (w64 (v_t835 + 1))), (9, I v_t844), (8, I (w64 (v_t840 + v_t843))), (7, I v_y836), (6, I v_t719), (0, SL 2 cSample v_a1), (2, I v_a3), (10, I v_t719), (27, I v_a2), (28, I v_t719), (53, SL 1 cI v_t807), (54, I (v_t807.length : Int))] []
                    refine nx_nil ?_
                    refine Says.ex (S' := [(55, I (w64 (v_t835 + 1))), (9, I v_t844), (8, I (w64 (v_t840 + v_t843))), (7, I v_y836), (6, I v_t719), (0, SL 2 cSample v_a1), (2, I v_a3), (10, I v_t719), (27, I v_a2), (28, I v_t719), (53, SL 1 cI v_t807), (54, I (v_t807.length : Int))]) (O' := []) (says_pick [0, 2, 3, 4, 5, 6, 7, 8, 9, 10, 11, 12] [] rfl rfl) ?_
                    refine ex_kx ?_
                    refine Says.kx (S' := [(0, SL 2 cSample v_a1), (2, I v_a3), (6, I v_t719), (7, I v_y836), (8, I (w64 (v_t840 + v_t843))), (9, I v_t844), (10, I v_t719), (27, I v_a2), (28, I v_t719), (53, SL 1 cI v_t807), (54, I (v_t807.length : Int)), (55, I (w64 (v_t835 + 1)))]) (O' := []) (says_pick [5, 6, 4, 3, 2, 1, 7, 8, 9, 10, 11, 0] [] rfl rfl) ?_
                    exact hK822 _ _ ⟨v_t719, v_y836, w64 (v_t840 + v_t843), v_t844, w64 (v_t835 + 1), h, rfl, rfl⟩
                  · have h := ite_f hc h
                    refine cw_skip ?_
                    refine ex_bn ?_
                    refine ex_kx (hK825 _ _ ?_)
                    refine cw_region ?_
                    refine nx_o (op_add (.tmp 15 rfl) (Can.int _ _ _)) rfl ?_
                    refine nx_k [0, 1, 2, 3, 4, 5, 6, 7, 8, 9, 10, 11, 12, 13, 14, 15] (op_move (.tmp 0 rfl)) rfl rfl ?_
                    show Nx _ _ _ _ _ [(55, I (w64 (v_t835 + 1))), (109, I (w64 (v_t835 + 1))), (104, B (decide ((w64 ((w64 (v_t840 + v_t843)) * v_t834)) > (w64 (v_t833 * v_t844))))), (19, I v_t844), (18, I (w64 (v_t840 + v_t843))), (15, I v_y836), (0, SL 2 cSample v_a1), (2, I v_a3), (6, I v_t831), (7, I v_t832), (8, I v_t833), (9, I v_t834), (10, I v_t719), (27, I v_a2), (28, I v_t719), (53, SL 1 cI v_t807), (54, I (v_t807.length : Int))] []
                    refine nx_nil ?_
                    refine Says.ex (S' := [(55, I (w64 (v_t835 + 1))), (0, SL 2 cSample v_a1), (2, I v_a3), (6, I v_t831), (7, I v_t832), (8, I v_t833), (9, I v_t834), (10, I v_t719), (27, I v_a2), (28, I v_t719), (53, SL 1 cI v_t807), (54, I (v_t807.length : Int))]) (O' := []) (says_pick [0, 6, 7, 8, 9, 10, 11, 12, 13, 14, 15, 16] [] rfl rfl) ?_
                    refine ex_kx ?_
                    refine Says.kx (S' := [(0, SL 2 cSample v_a1), (2, I v_a3), (6, I v_t831), (7, I v_t832), (8, I v_t833), (9, I v_t834), (10, I v_t719), (27, I v_a2), (28, I v_t719), (53, SL 1 cI v_t807), (54, I (v_t807.length : Int)), (55, I (w64 (v_t835 + 1)))]) (O' := []) (says_pick [1, 2, 3, 4, 5, 6, 7, 8, 9, 10, 11, 0] [] rfl rfl) ?_
                    exact hK822 _ _ ⟨v_t831, v_t832, v_t833, v_t834, w64 (v_t835 + 1), h, rfl, rfl⟩
              · have h := ite_f hc h
                refine cw_exit ?_
                refine ex_te ?_
                refine ex_te ?_
                refine ex_be ?_
                refine ex_bn ?_
                refine ex_kx ?_
                refine Says.kx (S' := [(0, SL 2 cSample v_a1), (2, I v_a3), (6, I v_t831), (7, I v_t832), (8, I v_t833), (9, I v_t834), (27, I v_a2), (28, I v_t719)]) (O' := []) (says_pick [1, 2, 3, 4, 5, 6, 8, 9] [] rfl rfl) ?_
                exact hK781 _ _ ⟨v_t831, v_t832, v_t833, v_t834, h, rfl, rfl⟩
          ·
            refine cw_seq fun K833 hK833 => ?_
            refine cw_region ?_
            refine nx_o (op_move (.tmp 2 rfl)) rfl ?_
            refine nx_o (op_len (.tmp 0 rfl) u22) rfl ?_
            refine nx_o (op_move (Can.int _ _ _)) rfl ?_
            refine nx_nil ?_
            refine ex_kx (hK833 _ _ ?_)
            refine cw_block ?_
            refine Says.cw (says_ownNil 11 276 3 1 cI 3 rfl rfl rfl rfl) ?_
            show Cw _ _ _ _ [(33, I 0), (32, I (v_a1.length : Int)), (31, SL 2 cSample v_a1), (11, .ref 276), (10, I v_t719), (0, SL 2 cSample v_a1), (2, I v_a3), (6, I v_t715), (7, I v_t716), (8, I v_t717), (9, I v_t718), (27, I v_a2), (28, I v_t719)] [(276, .row 3 1 cI [])]
            refine Says.cw (S' := [(0, SL 2 cSample v_a1), (2, I v_a3), (6, I v_t715), (7, I v_t716), (8, I v_t717), (9, I v_t718), (10, I v_t719), (11, .ref 276), (27, I v_a2), (28, I v_t719), (31, SL 2 cSample v_a1), (32, I (v_a1.length : Int)), (33, I 0)]) (O' := [(276, .row 3 1 cI [])]) (says_pick [5, 6, 7, 8, 9, 10, 4, 3, 11, 12, 2, 1, 0] [0] rfl rfl) ?_
            refine cw_loopJ (fun n S O => ∃ (v_t853 : List Int) (v_t854 : Int), grow_best_l3 N v_a1 v_t719 v_a3 (grow_best_l1 N v_a2 v_a1 v_a3 n_1) v_t715 v_t716 v_t717 v_t718 n v_t853 v_t854 = some r ∧ S = [(0, SL 2 cSample v_a1), (2, I v_a3), (6, I v_t715), (7, I v_t716), (8, I v_t717), (9, I v_t718), (10, I v_t719), (11, .ref 276), (27, I v_a2), (28, I v_t719), (31, SL 2 cSample v_a1), (32, I (v_a1.length : Int)), (33, I v_t854)] ∧ O = [(276, .row 3 1 cI v_t853)]) ?_ ?_ N ⟨[], 0, h, rfl, rfl⟩
            · rintro S O ⟨v_t853, v_t854, h, -, -⟩
              simp [grow_best_l3] at h
            · rintro n_3 S O ⟨v_t853, v_t854, h, rfl, rfl⟩ K842 hK842
              rw [grow_best_l3] at h
              refine cw_seq fun K843 hK843 => ?_
              refine cw_region ?_
              refine nx_o (op_lss (.tmp 12 rfl) (.tmp 11 rfl)) rfl ?_
              refine nx_nil ?_
              refine ex_kx (hK843 _ _ ?_)
              refine cw_seq fun K844 hK844 => ?_
              refine cw_cond (b := (decide (v_t854 < (v_a1.length : Int)))) (.tmp 0 rfl) (fun hc => ?_) (fun hc => ?_)
              · have h := ite_t hc h
                refine cw_skip ?_
                refine ex_kx (hK844 _ _ ?_)
                refine cw_seq fun K845 hK845 => ?_
                refine cw_block ?_
                refine cw_seq fun K846 hK846 => ?_
                refine cw_region ?_
                obtain ⟨v_y855, hv_y855, h⟩ := bnd h
                refine nx_o (op_indexX hv_y855 (.tmp 11 rfl) (.tmp 13 rfl) u22 s25) rfl ?_
                refine nx_o (op_loadA (cSample v_y855) (.tmp 0 rfl) a25 s25 rfl) rfl ?_
                refine nx_op (op_alloc 279 (cSample (Sample.mk [] 0)) za25 zSample rfl) rfl ?_
                show Nx _ _ _ _ _ [(13, .ref 279), (36, .agg (cSample v_y855)), (35, .ptr (cSample v_y855)), (34, B (decide (v_t854 < (v_a1.length : Int)))), (0, SL 2 cSample v_a1), (2, I v_a3), (6, I v_t715), (7, I v_t716), (8, I v_t717), (9, I v_t718), (10, I v_t719), (11, .ref 276), (27, I v_a2), (28, I v_t719), (31, SL 2 cSample v_a1), (32, I (v_a1.length : Int)), (33, I v_t854)] [(279, .var 25 [SL 1 cI [], I 0]), (276, .row 3 1 cI v_t853)]
                refine nx_o0 (op_storeVA (its := (cSample v_y855)) (.tmp 0 rfl) 0 rfl (.agg (.tmp 1 rfl)) rfl s25) ?_
                show Nx _ _ _ _ _ [(13, .ref 279), (36, .agg (cSample v_y855)), (35, .ptr (cSample v_y855)), (34, B (decide (v_t854 < (v_a1.length : Int)))), (0, SL 2 cSample v_a1), (2, I v_a3), (6, I v_t715), (7, I v_t716), (8, I v_t717), (9, I v_t718), (10, I v_t719), (11, .ref 276), (27, I v_a2), (28, I v_t719), (31, SL 2 cSample v_a1), (32, I (v_a1.length : Int)), (33, I v_t854)] [(279, .var 25 [SL 1 cI v_y855.row, I v_y855.target]), (276, .row 3 1 cI v_t853)]
                refine nx_nil ?_
                refine Says.ex (S' := [(13, .ref 279), (0, SL 2 cSample v_a1), (2, I v_a3), (6, I v_t715), (7, I v_t716), (8, I v_t717), (9, I v_t718), (10, I v_t719), (11, .ref 276), (27, I v_a2), (28, I v_t719), (31, SL 2 cSample v_a1), (32, I (v_a1.length : Int)), (33, I v_t854)]) (O' := [(279, .var 25 [SL 1 cI v_y855.row, I v_y855.target]), (276, .row 3 1 cI v_t853)]) (says_pick [0, 4, 5, 6, 7, 8, 9, 10, 11, 12, 13, 14, 15, 16] [0, 1] rfl rfl) ?_
                refine ex_kx (hK846 _ _ ?_)
                refine cw_region ?_
                refine nx_o (op_move (.tmp 8 rfl)) rfl ?_
                refine nx_o (op_fieldVar (.tmp 1 rfl) 0 rfl o25_0) rfl ?_
                refine nx_o (op_loadV (.tmp 0 rfl) 0 rfl rfl a23) rfl ?_
                refine nx_o (op_move (.tmp 10 rfl)) rfl ?_
                obtain ⟨v_y856, hv_y856, h⟩ := bnd h
                refine nx_o (op_indexX hv_y856 (.tmp 1 rfl) (.tmp 0 rfl) u23 s3) rfl ?_
                refine nx_o (op_load1 (.tmp 0 rfl) a3) rfl ?_
                refine nx_o (op_buildSlice (cI 0) (n := 1) (c := cI) ([v_y856] : List Int) bl23 zI (by decide) (by decide) (.cons (.c (.tmp 0 rfl)) rfl (Nat.le_of_ble_eq_true rfl) .nil) rfl rfl (fun _ => rfl)) rfl ?_
                obtain ⟨v_t857, hv_t857, h⟩ := bnd h
                refine nx_k [0, 1, 2, 3, 4, 5, 7, 8, 9, 10, 11, 12, 13, 14, 16, 17, 18, 19, 20] (op_appendX hv_t857 280 (.tmp 6 rfl) 1 rfl (.tmp 0 rfl) u23 i3 (by decide) (by decide) (fun _ => rfl) rfl rfl) rfl rfl ?_
                show Nx _ _ _ _ _ [(44, .ref 280), (43, SL 1 cI [v_y856]), (42, I v_y856), (41, .ptr (cI v_y856)), (40, I v_t719), (39, SL 1 cI v_y855.row), (38, .pt 279 0), (13, .ref 279), (0, SL 2 cSample v_a1), (2, I v_a3), (6, I v_t715), (7, I v_t716), (8, I v_t717), (9, I v_t718), (10, I v_t719), (27, I v_a2), (28, I v_t719), (31, SL 2 cSample v_a1), (32, I (v_a1.length : Int)), (33, I v_t854)] [(280, .row 3 1 cI v_t857), (279, .var 25 [SL 1 cI v_y855.row, I v_y855.target])]
                refine nx_o (op_assign (.tmp 0 rfl)) rfl ?_
                refine nx_nil ?_
                refine Says.ex (S' := [(11, .ref 280), (0, SL 2 cSample v_a1), (2, I v_a3), (6, I v_t715), (7, I v_t716), (8, I v_t717), (9, I v_t718), (10, I v_t719), (27, I v_a2), (28, I v_t719), (31, SL 2 cSample v_a1), (32, I (v_a1.length : Int)), (33, I v_t854)]) (O' := [(280, .row 3 1 cI v_t857)]) (says_pick [0, 9, 10, 11, 12, 13, 14, 15, 16, 17, 18, 19, 20] [0] rfl rfl) ?_
                refine ex_bn ?_
                refine ex_kx (hK845 _ _ ?_)
                refine cw_region ?_
                refine nx_o (op_add (.tmp 12 rfl) (Can.int _ _ _)) rfl ?_
                refine nx_k [0, 1, 2, 3, 4, 5, 6, 7, 8, 9, 10, 11, 12] (op_move (.tmp 0 rfl)) rfl rfl ?_
                show Nx _ _ _ _ _ [(33, I (w64 (v_t854 + 1))), (45, I (w64 (v_t854 + 1))), (11, .ref 280), (0, SL 2 cSample v_a1), (2, I v_a3), (6, I v_t715), (7, I v_t716), (8, I v_t717), (9, I v_t718), (10, I v_t719), (27, I v_a2), (28, I v_t719), (31, SL 2 cSample v_a1), (32, I (v_a1.length : Int))] [(280, .row 3 1 cI v_t857)]
                refine nx_nil ?_
                refine Says.ex (S' := [(33, I (w64 (v_t854 + 1))), (11, .ref 280), (0, SL 2 cSample v_a1), (2, I v_a3), (6, I v_t715), (7, I v_t716), (8, I v_t717), (9, I v_t718), (10, I v_t719), (27, I v_a2), (28, I v_t719), (31, SL 2 cSample v_a1), (32, I (v_a1.length : Int))]) (O' := [(280, .row 3 1 cI v_t857)]) (says_pick [0, 2, 3, 4, 5, 6, 7, 8, 9, 10, 11, 12, 13] [0] rfl rfl) ?_
                refine ex_kx ?_
                refine Says.kx (S' := [(0, SL 2 cSample v_a1), (2, I v_a3), (6, I v_t715), (7, I v_t716), (8, I v_t717), (9, I v_t718), (10, I v_t719), (11, .ref 280), (27, I v_a2), (28, I v_t719), (31, SL 2 cSample v_a1), (32, I (v_a1.length : Int)), (33, I (w64 (v_t854 + 1)))]) (O' := [(280, .row 3 1 cI v_t857)]) (says_pick [2, 3, 4, 5, 6, 7, 8, 1, 9, 10, 11, 12, 0] [0] rfl rfl) ?_
                refine Says.kx (says_swap 280 276 rfl rfl rfl rfl) ?_
                exact hK842 _ _ ⟨v_t857, w64 (v_t854 + 1), h, rfl, rfl⟩
              · have h := ite_f hc h
                refine cw_exit ?_
                refine ex_te ?_
                refine ex_te ?_
                refine ex_be ?_
                refine ex_kx ?_
                refine Says.kx (S' := [(0, SL 2 cSample v_a1), (2, I v_a3), (6, I v_t715), (7, I v_t716), (8, I v_t717), (9, I v_t718), (10, I v_t719), (11, .ref 276), (27, I v_a2), (28, I v_t719)]) (O' := [(276, .row 3 1 cI v_t853)]) (says_pick [1, 2, 3, 4, 5, 6, 7, 8, 9, 10] [0] rfl rfl) ?_
                refine Says.kx (says_swap 276 268 rfl rfl rfl rfl) ?_
                exact hK799 _ _ ⟨v_t853, h, rfl, rfl⟩
      · have h := ite_f hc h
        refine cw_exit ?_
        refine ex_te ?_
        refine ex_te ?_
        refine ex_be ?_
        refine ex_kx ?_
        refine Says.kx (S' := [(6, I v_t715), (7, I v_t716)]) (O' := []) (says_pick [3, 4] [] rfl rfl) ?_
        exact hK427 _ _ ⟨v_t715, v_t716, h, rfl, rfl⟩

theorem f82_fn (N : Nat) (v_a1 : Int) (v_b2 : Int) (r : Int) (h : fixed_Floor N v_a1 v_b2 = some r) : Fn Go.Proofs.Try.prog 82 [I v_a1, I v_b2] [] (I r) [] := by
  unfold fixed_Floor at h
  refine fn_intro [] fun82 rfl rfl (Nat.le_of_ble_eq_true rfl) rfl rfl (fun w G V => ?_)
  show Cw _ _ _ _ [(0, I v_a1), (1, I v_b2)] []
  refine cw_seq fun K1 hK1 => ?_
  refine cw_region ?_
  refine nx_o (op_assign (Can.int _ _ _)) rfl ?_
  refine nx_nil ?_
  refine Says.ex (S' := [(0, I v_a1), (1, I v_b2)]) (O' := []) (says_pick [1, 2] [] rfl rfl) ?_
  refine ex_kx (hK1 _ _ ?_)
  refine cw_seq fun K2 hK2 => ?_
  refine cw_region ?_
  refine nx_o (op_move (.tmp 0 rfl)) rfl ?_
  refine nx_o (op_move (.tmp 2 rfl)) rfl ?_
  obtain ⟨v_q3, hv_q3, h⟩ := bnd h
  refine nx_o (op_quoX hv_q3 (.tmp 1 rfl) (.tmp 0 rfl)) rfl ?_
  refine nx_o (op_assign (.tmp 0 rfl)) rfl ?_
  refine nx_nil ?_
  refine Says.ex (S' := [(5, I (w64 (Int.tdiv v_a1 v_b2))), (0, I v_a1), (1, I v_b2)]) (O' := []) (says_pick [0, 4, 5] [] rfl rfl) ?_
  refine ex_kx (hK2 _ _ ?_)
  refine cw_seq fun K3 hK3 => ?_
  refine cw_seq fun K4 hK4 => ?_
  refine cw_region ?_
  refine nx_o (op_move (.tmp 1 rfl)) rfl ?_
  refine nx_o (op_move (.tmp 3 rfl)) rfl ?_
  obtain ⟨v_q4, hv_q4, h⟩ := bnd h
  refine nx_o (op_remX hv_q4 (.tmp 1 rfl) (.tmp 0 rfl)) rfl ?_
  refine nx_o (op_lss (.tmp 0 rfl) (Can.int _ _ _)) rfl ?_
  refine nx_nil ?_
  refine Says.ex (S' := [(12, B (decide ((Int.tmod v_a1 v_b2) < 0))), (5, I (w64 (Int.tdiv v_a1 v_b2)))]) (O' := []) (says_pick [0, 4] [] rfl rfl) ?_
  refine ex_kx (hK4 _ _ ?_)
  refine cw_cond (b := (decide ((Int.tmod v_a1 v_b2) < 0))) (.tmp 0 rfl) (fun hc => ?_) (fun hc => ?_)
  · have h := ite_t hc h
    refine cw_region ?_
    refine nx_o (op_move (.tmp 1 rfl)) rfl ?_
    refine nx_o (op_sub (.tmp 0 rfl) (Can.int _ _ _)) rfl ?_
    refine nx_k [0, 1, 2] (op_assign (.tmp 0 rfl)) rfl rfl ?_
    show Nx _ _ _ _ _ [(5, I (w64 ((w64 (Int.tdiv v_a1 v_b2)) - 1))), (14, I (w64 ((w64 (Int.tdiv v_a1 v_b2)) - 1))), (13, I (w64 (Int.tdiv v_a1 v_b2))), (12, B (decide ((Int.tmod v_a1 v_b2) < 0)))] []
    refine nx_nil ?_
    refine Says.ex (S' := [(5, I (w64 ((w64 (Int.tdiv v_a1 v_b2)) - 1)))]) (O' := []) (says_pick [0] [] rfl rfl) ?_
    refine ex_kx (hK3 _ _ ?_)
    refine cw_seq fun K5 hK5 => ?_
    refine cw_region ?_
    refine nx_o (op_move (.tmp 0 rfl)) rfl ?_
    refine nx_o (op_assign (.tmp 0 rfl)) rfl ?_
    refine nx_nil ?_
    refine Says.ex (S' := [(4, I (w64 ((w64 (Int.tdiv v_a1 v_b2)) - 1)))]) (O' := []) (says_pick [0] [] rfl rfl) ?_
    refine ex_kx (hK5 _ _ ?_)
    refine cw_ret ?_
    cases h
    exact ex_done (.inl rfl) rfl (fun a w G V hs _ hS => res1 rfl (.tmp 0 rfl) a w G V hS)
  · have h := ite_f hc h
    refine cw_skip ?_
    refine ex_kx (hK3 _ _ ?_)
    refine cw_seq fun K6 hK6 => ?_
    refine cw_region ?_
    refine nx_o (op_move (.tmp 1 rfl)) rfl ?_
    refine nx_o (op_assign (.tmp 0 rfl)) rfl ?_
    refine nx_nil ?_
    refine Says.ex (S' := [(4, I (w64 (Int.tdiv v_a1 v_b2)))]) (O' := []) (says_pick [0] [] rfl rfl) ?_
    refine ex_kx (hK6 _ _ ?_)
    refine cw_ret ?_
    cases h
    exact ex_done (.inl rfl) rfl (fun a w G V hs _ hS => res1 rfl (.tmp 0 rfl) a w G V hS)

theorem f40_fn : ∀ (N : Nat) (v_a1 : List Node) (v_a2 : List Sample) (v_a3 : Int) (v_a4 : Int) (v_a5 : Int) (r : List Node), grow_Grow N v_a1 v_a2 v_a3 v_a4 v_a5 = some r → Fn Go.Proofs.Try.prog 40 [.ref 1, SL 2 cSample v_a2, I v_a3, I v_a4, I v_a5] [(1, .row 32 6 cNode v_a1)] (.ref 11) [(11, .row 32 6 cNode r)] := by
  intro N
  induction N with
  | zero => intro v_a1 v_a2 v_a3 v_a4 v_a5 r h; simp [grow_Grow] at h
  | succ N ihrec =>
    intro v_a1 v_a2 v_a3 v_a4 v_a5 r h
    rw [grow_Grow] at h
    refine fn_intro [1] fun40 rfl rfl (Nat.le_of_ble_eq_true rfl) rfl rfl (fun w G V => ?_)
    show Cw _ _ _ _ [(0, .ref 1), (1, SL 2 cSample v_a2), (2, I v_a3), (3, I v_a4), (4, I v_a5)] [(1, .row 32 6 cNode v_a1)]
    refine cw_seq fun K1 hK1 => ?_
    refine cw_region ?_
    refine nx_o (op_assign (Can.raw _ _)) rfl ?_
    refine nx_nil ?_
    refine Says.ex (S' := [(0, .ref 1), (1, SL 2 cSample v_a2), (2, I v_a3), (3, I v_a4), (4, I v_a5)]) (O' := [(1, .row 32 6 cNode v_a1)]) (says_pick [1, 2, 3, 4, 5] [0] rfl rfl) ?_
    refine ex_kx (hK1 _ _ ?_)
    refine cw_seq fun K2 hK2 => ?_
    refine cw_region ?_
    refine nx_o (op_move (.tmp 0 rfl)) rfl ?_
    refine nx_o (op_lenR (.tmp 0 rfl) 0 rfl u26) rfl ?_
    refine nx_o (op_assign (.tmp 0 rfl)) rfl ?_
    refine nx_nil ?_
    refine Says.ex (S' := [(11, I (v_a1.length : Int)), (0, .ref 1), (1, SL 2 cSample v_a2), (2, I v_a3), (3, I v_a4), (4, I v_a5)]) (O' := [(1, .row 32 6 cNode v_a1)]) (says_pick [0, 3, 4, 5, 6, 7] [0] rfl rfl) ?_
    refine ex_kx (hK2 _ _ ?_)
    refine cw_seq fun K3 hK3 => ?_
    refine cw_region ?_
    refine nx_o (op_assign (Can.int _ _ _)) rfl ?_
    refine nx_nil ?_
    refine ex_kx (hK3 _ _ ?_)
    refine cw_seq fun K4 hK4 => ?_
    refine cw_region ?_
    refine nx_o (op_assign (Can.int _ _ _)) rfl ?_
    refine nx_nil ?_
    refine ex_kx (hK4 _ _ ?_)
    refine cw_join (fun S O => ∃ (v_t7 : Int) (v_t8 : Int), grow_Grow_j1 N v_a2 v_a1 (grow_Grow N) v_a3 v_a4 v_a5 v_t7 v_t8 = some r ∧ S = [(0, .ref 1), (1, SL 2 cSample v_a2), (2, I v_a3), (3, I v_a4), (4, I v_a5), (11, I (v_a1.length : Int)), (12, I v_t7), (13, I v_t8)] ∧ O = [(1, .row 32 6 cNode v_a1)]) ?_ (fun K6 hK6 => ?_)
    · rintro S O ⟨v_t7, v_t8, h, rfl, rfl⟩
      unfold grow_Grow_j1 at h
      refine cw_seq fun K7 hK7 => ?_
      refine cw_seq fun K8 hK8 => ?_
      refine cw_region ?_
      refine nx_o (op_move (.tmp 6 rfl)) rfl ?_
      refine nx_o (op_lss (.tmp 0 rfl) (Can.int _ _ _)) rfl ?_
      refine nx_nil ?_
      refine Says.ex (S' := [(28, B (decide (v_t7 < 0))), (0, .ref 1), (1, SL 2 cSample v_a2), (2, I v_a3), (3, I v_a4), (4, I v_a5), (11, I (v_a1.length : Int)), (12, I v_t7), (13, I v_t8)]) (O' := [(1, .row 32 6 cNode v_a1)]) (says_pick [0, 2, 3, 4, 5, 6, 7, 8, 9] [0] rfl rfl) ?_
      refine ex_kx (hK8 _ _ ?_)
      refine cw_cond (b := (decide (v_t7 < 0))) (.tmp 0 rfl) (fun hc => ?_) (fun hc => ?_)
      · have h := ite_t hc h
        refine cw_seq fun K9 hK9 => ?_
        refine cw_region ?_
        refine nx_o (op_move (.tmp 1 rfl)) rfl ?_
        refine nx_o (op_move (.tmp 3 rfl)) rfl ?_
        obtain ⟨v_r9, hv_r9, h⟩ := bnd h
        refine nx_o (op_call0 (show Fn Go.Proofs.Try.prog 83 [SL 2 cSample v_a2] [] (I v_r9) [] from (f83_fn N v_a2 _ hv_r9)) c83 (.cons (.tmp 0 rfl) .nil)) rfl ?_
        refine nx_o (op_move (.tmp 5 rfl)) rfl ?_
        refine nx_o (op_len (.tmp 0 rfl) u22) rfl ?_
        obtain ⟨v_r10, hv_r10, h⟩ := bnd h
        refine nx_o (op_call0 (show Fn Go.Proofs.Try.prog 82 [I v_r9, I (v_a2.length : Int)] [] (I v_r10) [] from (f82_fn N v_r9 (v_a2.length : Int) _ hv_r10)) c82 (.cons (.tmp 2 rfl) (.cons (.tmp 0 rfl) .nil))) rfl ?_
        refine nx_o (op_build (l := (cNode (Node.mk (-1) 0 0 0 false v_r10))) (cNode (Node.mk 0 0 0 0 false 0)) bs32 zNode (.cons (.c (Can.int _ _ _)) rfl (Nat.le_of_ble_eq_true rfl) (.cons (.c (.tmp 0 rfl)) rfl (Nat.le_of_ble_eq_true rfl) .nil)) rfl) rfl ?_
        refine nx_o (op_buildSlice (cNode (Node.mk 0 0 0 0 false 0)) (n := 6) (c := cNode) ([(Node.mk (-1) 0 0 0 false v_r10)] : List Node) bl26 zNode (by decide) (by decide) (.cons (.agg (.tmp 0 rfl)) rfl (Nat.le_of_ble_eq_true rfl) .nil) rfl rfl (fun _ => rfl)) rfl ?_
        obtain ⟨v_t11, hv_t11, h⟩ := bnd h
        refine nx_k [0, 1, 2, 3, 4, 5, 6, 8, 10, 11, 12, 13, 14, 15, 16] (op_appendX hv_t11 13 (.tmp 7 rfl) 0 rfl (.tmp 0 rfl) u26 i32 (by decide) (by decide) (fun _ => rfl) rfl rfl) rfl rfl ?_
        show Nx _ _ _ _ _ [(37, .ref 13), (36, SL 6 cNode [(Node.mk (-1) 0 0 0 false v_r10)]), (35, .agg (cNode (Node.mk (-1) 0 0 0 false v_r10))), (34, I v_r10), (33, I (v_a2.length : Int)), (32, SL 2 cSample v_a2), (31, I v_r9), (30, SL 2 cSample v_a2), (28, B (decide (v_t7 < 0))), (1, SL 2 cSample v_a2), (2, I v_a3), (3, I v_a4), (4, I v_a5), (11, I (v_a1.length : Int)), (12, I v_t7), (13, I v_t8)] [(13, .row 32 6 cNode v_t11)]
        refine nx_o (op_assign (.tmp 0 rfl)) rfl ?_
        refine nx_nil ?_
        refine Says.ex (S' := [(10, .ref 13)]) (O' := [(13, .row 32 6 cNode v_t11)]) (says_pick [0] [0] rfl rfl) ?_
        refine ex_kx (hK9 _ _ ?_)
        refine cw_ret ?_
        refine ex_tr ?_
        refine Says.ex (says_swap 13 11 rfl rfl rfl rfl) ?_
        cases h
        exact ex_done (.inl rfl) rfl (fun a w G V hs _ hS => res1 rfl (.tmp 0 rfl) a w G V hS)
      · have h := ite_f hc h
        refine cw_skip ?_
        refine ex_kx (hK7 _ _ ?_)
        refine cw_seq fun K10 hK10 => ?_
        refine cw_region ?_
        refine nx_o (op_move (.tmp 2 rfl)) rfl ?_
        refine nx_o (op_move (.tmp 8 rfl)) rfl ?_
        refine nx_o (op_move (.tmp 10 rfl)) rfl ?_
        obtain ⟨v_r12, hv_r12, h⟩ := bnd h
        refine nx_o (op_call0 (show Fn Go.Proofs.Try.prog 84 [SL 2 cSample v_a2, I v_t7, I v_t8] [] (.tup [SL 2 cSample v_r12.1, SL 2 cSample v_r12.2]) [] from (f84_fn N v_a2 v_t7 v_t8 _ hv_r12)) c84 (.cons (.tmp 2 rfl) (.cons (.tmp 1 rfl) (.cons (.tmp 0 rfl) .nil)))) rfl ?_
        refine nx_o (op_move (.tmp 0 rfl)) rfl ?_
        refine nx_o (op_extract (.tmp 0 rfl) rfl) rfl ?_
        refine nx_o (op_extract (.tmp 1 rfl) rfl) rfl ?_
        refine nx_o (op_assign (.tmp 1 rfl)) rfl ?_
        refine nx_o (op_assign (.tmp 1 rfl)) rfl ?_
        refine nx_nil ?_
        refine Says.ex (S' := [(15, SL 2 cSample v_r12.2), (14, SL 2 cSample v_r12.1), (0, .ref 1), (2, I v_a3), (3, I v_a4), (4, I v_a5), (11, I (v_a1.length : Int)), (12, I v_t7), (13, I v_t8)]) (O' := [(1, .row 32 6 cNode v_a1)]) (says_pick [0, 1, 10, 12, 13, 14, 15, 16, 17] [0] rfl rfl) ?_
        refine ex_kx (hK10 _ _ ?_)
        refine cw_seq fun K11 hK11 => ?_
        refine cw_region ?_
        refine nx_o (op_move (.tmp 2 rfl)) rfl ?_
        refine nx_o (op_move (.tmp 8 rfl)) rfl ?_
        refine nx_o (op_move (.tmp 10 rfl)) rfl ?_
        refine nx_o (op_move (.tmp 4 rfl)) rfl ?_
        refine nx_o (op_len (.tmp 0 rfl) u22) rfl ?_
        refine nx_o (op_move (.tmp 5 rfl)) rfl ?_
        refine nx_o (op_len (.tmp 0 rfl) u22) rfl ?_
        refine nx_o (op_gtr (.tmp 2 rfl) (.tmp 0 rfl)) rfl ?_
        refine nx_o (op_move (.tmp 14 rfl)) rfl ?_
        refine nx_o (op_add (.tmp 0 rfl) (Can.int _ _ _)) rfl ?_
        refine nx_o (op_build (l := (cNode (Node.mk v_t7 v_t8 (w64 ((v_a1.length : Int) + 1)) 0 (decide ((v_r12.1.length : Int) > (v_r12.2.length : Int))) 0))) (cNode (Node.mk 0 0 0 0 false 0)) bs32 zNode (.cons (.c (.tmp 8 rfl)) rfl (Nat.le_of_ble_eq_true rfl) (.cons (.c (.tmp 7 rfl)) rfl (Nat.le_of_ble_eq_true rfl) (.cons (.c (.tmp 2 rfl)) rfl (Nat.le_of_ble_eq_true rfl) (.cons (.c (.tmp 0 rfl)) rfl (Nat.le_of_ble_eq_true rfl) .nil)))) rfl) rfl ?_
        refine nx_o (op_buildSlice (cNode (Node.mk 0 0 0 0 false 0)) (n := 6) (c := cNode) ([(Node.mk v_t7 v_t8 (w64 ((v_a1.length : Int) + 1)) 0 (decide ((v_r12.1.length : Int) > (v_r12.2.length : Int))) 0)] : List Node) bl26 zNode (by decide) (by decide) (.cons (.agg (.tmp 0 rfl)) rfl (Nat.le_of_ble_eq_true rfl) .nil) rfl rfl (fun _ => rfl)) rfl ?_
        obtain ⟨v_t13, hv_t13, h⟩ := bnd h
        refine nx_k [0, 1, 2, 3, 4, 5, 6, 7, 8, 9, 10, 12, 13, 15, 16, 17, 18, 19, 20] (op_appendX hv_t13 14 (.tmp 11 rfl) 0 rfl (.tmp 0 rfl) u26 i32 (by decide) (by decide) (fun _ => rfl) rfl rfl) rfl rfl ?_
        show Nx _ _ _ _ _ [(57, .ref 14), (56, SL 6 cNode [(Node.mk v_t7 v_t8 (w64 ((v_a1.length : Int) + 1)) 0 (decide ((v_r12.1.length : Int) > (v_r12.2.length : Int))) 0)]), (55, .agg (cNode (Node.mk v_t7 v_t8 (w64 ((v_a1.length : Int) + 1)) 0 (decide ((v_r12.1.length : Int) > (v_r12.2.length : Int))) 0))), (54, I (w64 ((v_a1.length : Int) + 1))), (53, I (v_a1.length : Int)), (52, B (decide ((v_r12.1.length : Int) > (v_r12.2.length : Int)))), (51, I (v_r12.2.length : Int)), (50, SL 2 cSample v_r12.2), (49, I (v_r12.1.length : Int)), (48, SL 2 cSample v_r12.1), (47, I v_t8), (46, I v_t7), (15, SL 2 cSample v_r12.2), (14, SL 2 cSample v_r12.1), (2, I v_a3), (3, I v_a4), (4, I v_a5), (11, I (v_a1.length : Int)), (12, I v_t7), (13, I v_t8)] [(14, .row 32 6 cNode v_t13)]
        refine nx_o (op_assign (.tmp 0 rfl)) rfl ?_
        refine nx_nil ?_
        refine Says.ex (S' := [(0, .ref 14), (15, SL 2 cSample v_r12.2), (14, SL 2 cSample v_r12.1), (2, I v_a3), (3, I v_a4), (4, I v_a5), (11, I (v_a1.length : Int))]) (O' := [(14, .row 32 6 cNode v_t13)]) (says_pick [0, 13, 14, 15, 16, 17, 18] [0] rfl rfl) ?_
        refine ex_kx (hK11 _ _ ?_)
        refine cw_seq fun K12 hK12 => ?_
        refine cw_region ?_
        refine nx_o (op_move (.tmp 0 rfl)) rfl ?_
        refine nx_o (op_move (.tmp 3 rfl)) rfl ?_
        refine nx_o (op_move (.tmp 5 rfl)) rfl ?_
        refine nx_o (op_move (.tmp 7 rfl)) rfl ?_
        refine nx_o (op_sub (.tmp 0 rfl) (Can.int _ _ _)) rfl ?_
        refine nx_o (op_move (.tmp 10 rfl)) rfl ?_
        obtain ⟨v_r14, hv_r14, h⟩ := bnd h
        refine nx_k [0, 1, 2, 3, 4, 7, 8, 9, 10, 11, 12] (op_call (show Fn Go.Proofs.Try.prog 40 [.ref 14, SL 2 cSample v_r12.1, I v_a3, I (w64 (v_a4 - 1)), I v_a5] [(14, .row 32 6 cNode v_t13)] (.ref 15) [(15, .row 32 6 cNode v_r14)] from (Fn.swap (Fn.swap (ihrec v_t13 v_r12.1 v_a3 (w64 (v_a4 - 1)) v_a5 _ hv_r14) 11 15) 1 14)) c40 (.cons (.tmp 5 rfl) (.cons (.tmp 4 rfl) (.cons (.tmp 3 rfl) (.cons (.tmp 1 rfl) (.cons (.tmp 0 rfl) .nil))))) [0] rfl rfl rfl rfl rfl rfl) rfl rfl ?_
        show Nx _ _ _ _ _ [(64, .ref 15), (63, I v_a5), (62, I (w64 (v_a4 - 1))), (61, I v_a4), (60, I v_a3), (59, SL 2 cSample v_r12.1), (15, SL 2 cSample v_r12.2), (14, SL 2 cSample v_r12.1), (2, I v_a3), (3, I v_a4), (4, I v_a5), (11, I (v_a1.length : Int))] [(15, .row 32 6 cNode v_r14)]
        refine nx_o (op_assign (.tmp 0 rfl)) rfl ?_
        refine nx_nil ?_
        refine Says.ex (S' := [(0, .ref 15), (15, SL 2 cSample v_r12.2), (2, I v_a3), (3, I v_a4), (4, I v_a5), (11, I (v_a1.length : Int))]) (O' := [(15, .row 32 6 cNode v_r14)]) (says_pick [0, 7, 9, 10, 11, 12] [0] rfl rfl) ?_
        refine ex_kx (hK12 _ _ ?_)
        refine cw_seq fun K13 hK13 => ?_
        refine cw_region ?_
        refine nx_o (op_move (.tmp 0 rfl)) rfl ?_
        refine nx_o (op_move (.tmp 6 rfl)) rfl ?_
        refine nx_o (op_move (.tmp 2 rfl)) rfl ?_
        refine nx_o (op_lenR (.tmp 0 rfl) 0 rfl u26) rfl ?_
        obtain ⟨v_y15, hv_y15, h⟩ := bnd h
        refine nx_o (op_indexRX hv_y15 (.tmp 3 rfl) 0 rfl (.tmp 2 rfl) u26 s32) rfl ?_
        refine nx_o (op_fieldPt (.tmp 0 rfl) o32_3) rfl ?_
        refine nx_o0 (op_storeR (n := 6) (c := cNode) (l := v_r14) (.tmp 0 rfl) 0 rfl _ 3 ({ v_y15 with right := (v_r14.length : Int) }) rfl (ix_spec hv_y15).2 (Nat.le_of_ble_eq_true rfl) rfl (.tmp 2 rfl) s3) ?_
        show Nx _ _ _ _ _ [(70, .pt 15 (((v_a1.length : Int).toNat * 6) + 3)), (69, .pt 15 ((v_a1.length : Int).toNat * 6)), (68, I (v_r14.length : Int)), (67, .ref 15), (66, I (v_a1.length : Int)), (65, .ref 15), (0, .ref 15), (15, SL 2 cSample v_r12.2), (2, I v_a3), (3, I v_a4), (4, I v_a5), (11, I (v_a1.length : Int))] [(15, .row 32 6 cNode (v_r14.set (v_a1.length : Int).toNat ({ v_y15 with right := (v_r14.length : Int) })))]
        refine nx_nil ?_
        refine Says.ex (S' := [(0, .ref 15), (15, SL 2 cSample v_r12.2), (2, I v_a3), (3, I v_a4), (4, I v_a5)]) (O' := [(15, .row 32 6 cNode (v_r14.set (v_a1.length : Int).toNat ({ v_y15 with right := (v_r14.length : Int) })))]) (says_pick [6, 7, 8, 9, 10] [0] rfl rfl) ?_
        refine ex_kx (hK13 _ _ ?_)
        refine cw_seq fun K14 hK14 => ?_
        refine cw_region ?_
        refine nx_o (op_move (.tmp 0 rfl)) rfl ?_
        refine nx_o (op_move (.tmp 2 rfl)) rfl ?_
        refine nx_o (op_move (.tmp 4 rfl)) rfl ?_
        refine nx_o (op_move (.tmp 6 rfl)) rfl ?_
        refine nx_o (op_sub (.tmp 0 rfl) (Can.int _ _ _)) rfl ?_
        refine nx_o (op_move (.tmp 9 rfl)) rfl ?_
        obtain ⟨v_r16, hv_r16, h⟩ := bnd h
        refine nx_k [0, 1, 2, 3, 4, 7, 8, 9, 10] (op_call (show Fn Go.Proofs.Try.prog 40 [.ref 15, SL 2 cSample v_r12.2, I v_a3, I (w64 (v_a4 - 1)), I v_a5] [(15, .row 32 6 cNode (v_r14.set (v_a1.length : Int).toNat ({ v_y15 with right := (v_r14.length : Int) })))] (.ref 16) [(16, .row 32 6 cNode v_r16)] from (Fn.swap (Fn.swap (ihrec (v_r14.set (v_a1.length : Int).toNat ({ v_y15 with right := (v_r14.length : Int) })) v_r12.2 v_a3 (w64 (v_a4 - 1)) v_a5 _ hv_r16) 11 16) 1 15)) c40 (.cons (.tmp 5 rfl) (.cons (.tmp 4 rfl) (.cons (.tmp 3 rfl) (.cons (.tmp 1 rfl) (.cons (.tmp 0 rfl) .nil))))) [0] rfl rfl rfl rfl rfl rfl) rfl rfl ?_
        show Nx _ _ _ _ _ [(77, .ref 16), (76, I v_a5), (75, I (w64 (v_a4 - 1))), (74, I v_a4), (73, I v_a3), (72, SL 2 cSample v_r12.2), (15, SL 2 cSample v_r12.2), (2, I v_a3), (3, I v_a4), (4, I v_a5)] [(16, .row 32 6 cNode v_r16)]
        refine nx_o (op_assign (.tmp 0 rfl)) rfl ?_
        refine nx_nil ?_
        refine Says.ex (S' := [(10, .ref 16)]) (O' := [(16, .row 32 6 cNode v_r16)]) (says_pick [0] [0] rfl rfl) ?_
        refine ex_kx (hK14 _ _ ?_)
        refine cw_ret ?_
        refine Says.ex (says_swap 16 11 rfl rfl rfl rfl) ?_
        cases h
        exact ex_done (.inl rfl) rfl (fun a w G V hs _ hS => res1 rfl (.tmp 0 rfl) a w G V hS)
    ·
      refine cw_seq fun K15 hK15 => ?_
      refine cw_region ?_
      refine nx_o (op_move (.tmp 6 rfl)) rfl ?_
      refine nx_o (op_gtr (.tmp 0 rfl) (Can.int _ _ _)) rfl ?_
      refine nx_nil ?_
      refine Says.ex (S' := [(19, B (decide (v_a4 > 0))), (13, I 0), (12, I (-1)), (11, I (v_a1.length : Int)), (0, .ref 1), (1, SL 2 cSample v_a2), (2, I v_a3), (3, I v_a4), (4, I v_a5)]) (O' := [(1, .row 32 6 cNode v_a1)]) (says_pick [0, 2, 3, 4, 5, 6, 7, 8, 9] [0] rfl rfl) ?_
      refine ex_kx (hK15 _ _ ?_)
      refine cw_cond (b := (decide (v_a4 > 0))) (.tmp 0 rfl) (fun hc => ?_) (fun hc => ?_)
      · have h := ite_t hc h
        refine cw_region ?_
        refine nx_o (op_move (.tmp 5 rfl)) rfl ?_
        refine nx_o (op_move (.tmp 7 rfl)) rfl ?_
        refine nx_o (op_move (.tmp 10 rfl)) rfl ?_
        obtain ⟨v_r17, hv_r17, h⟩ := bnd h
        refine nx_o (op_call0 (show Fn Go.Proofs.Try.prog 62 [SL 2 cSample v_a2, I v_a3, I v_a5] [] (.tup [I v_r17.1, I v_r17.2]) [] from (f62_fn N v_a2 v_a3 v_a5 _ hv_r17)) c62 (.cons (.tmp 2 rfl) (.cons (.tmp 1 rfl) (.cons (.tmp 0 rfl) .nil)))) rfl ?_
        refine nx_o (op_move (.tmp 0 rfl)) rfl ?_
        refine nx_o (op_extract (.tmp 0 rfl) rfl) rfl ?_
        refine nx_o (op_extract (.tmp 1 rfl) rfl) rfl ?_
        refine nx_k [0, 1, 2, 3, 4, 5, 6, 7, 8, 10, 11, 12, 13, 14, 15] (op_assign (.tmp 1 rfl)) rfl rfl ?_
        show Nx _ _ _ _ _ [(12, I v_r17.1), (26, I v_r17.2), (25, I v_r17.1), (20, .tup [I v_r17.1, I v_r17.2]), (24, .tup [I v_r17.1, I v_r17.2]), (23, I v_a5), (22, I v_a3), (21, SL 2 cSample v_a2), (19, B (decide (v_a4 > 0))), (13, I 0), (11, I (v_a1.length : Int)), (0, .ref 1), (1, SL 2 cSample v_a2), (2, I v_a3), (3, I v_a4), (4, I v_a5)] [(1, .row 32 6 cNode v_a1)]
        refine nx_k [0, 1, 2, 3, 4, 5, 6, 7, 8, 10, 11, 12, 13, 14, 15] (op_assign (.tmp 1 rfl)) rfl rfl ?_
        show Nx _ _ _ _ _ [(13, I v_r17.2), (12, I v_r17.1), (26, I v_r17.2), (25, I v_r17.1), (20, .tup [I v_r17.1, I v_r17.2]), (24, .tup [I v_r17.1, I v_r17.2]), (23, I v_a5), (22, I v_a3), (21, SL 2 cSample v_a2), (19, B (decide (v_a4 > 0))), (11, I (v_a1.length : Int)), (0, .ref 1), (1, SL 2 cSample v_a2), (2, I v_a3), (3, I v_a4), (4, I v_a5)] [(1, .row 32 6 cNode v_a1)]
        refine nx_nil ?_
        refine Says.ex (S' := [(13, I v_r17.2), (12, I v_r17.1), (11, I (v_a1.length : Int)), (0, .ref 1), (1, SL 2 cSample v_a2), (2, I v_a3), (3, I v_a4), (4, I v_a5)]) (O' := [(1, .row 32 6 cNode v_a1)]) (says_pick [0, 1, 10, 11, 12, 13, 14, 15] [0] rfl rfl) ?_
        refine ex_kx ?_
        refine Says.kx (S' := [(0, .ref 1), (1, SL 2 cSample v_a2), (2, I v_a3), (3, I v_a4), (4, I v_a5), (11, I (v_a1.length : Int)), (12, I v_r17.1), (13, I v_r17.2)]) (O' := [(1, .row 32 6 cNode v_a1)]) (says_pick [3, 4, 5, 6, 7, 2, 1, 0] [0] rfl rfl) ?_
        exact hK6 _ _ ⟨v_r17.1, v_r17.2, h, rfl, rfl⟩
      · have h := ite_f hc h
        refine cw_skip ?_
        refine ex_kx ?_
        refine Says.kx (S' := [(0, .ref 1), (1, SL 2 cSample v_a2), (2, I v_a3), (3, I v_a4), (4, I v_a5), (11, I (v_a1.length : Int)), (12, I (-1)), (13, I 0)]) (O' := [(1, .row 32 6 cNode v_a1)]) (says_pick [4, 5, 6, 7, 8, 3, 2, 1] [0] rfl rfl) ?_
        exact hK6 _ _ ⟨(-1), 0, h, rfl, rfl⟩

theorem f10_fn (N : Nat) (v_l1 : List Sample) (v_features2 : Int) (v_depth3 : Int) (v_least4 : Int) (r : (List Node) × (Option Int)) (h : grow_Fit N v_l1 v_features2 v_depth3 v_least4 = some r) : Fn Go.Proofs.Try.prog 10 [SL 2 cSample v_l1, I v_features2, I v_depth3, I v_least4] [] (.tup [SL 6 cNode r.1, Er TE r.2]) [] := by
  unfold grow_Fit at h
  refine fn_intro [] fun10 rfl rfl (Nat.le_of_ble_eq_true rfl) rfl rfl (fun w G V => ?_)
  show Cw _ _ _ _ [(0, SL 2 cSample v_l1), (1, I v_features2), (2, I v_depth3), (3, I v_least4)] []
  refine cw_seq fun K1 hK1 => ?_
  refine cw_region ?_
  refine nx_o (op_assign (Can.raw _ _)) rfl ?_
  refine nx_o (op_assign (Can.nilE _ TE)) rfl ?_
  refine nx_nil ?_
  refine Says.ex (S' := [(0, SL 2 cSample v_l1), (1, I v_features2), (2, I v_depth3), (3, I v_least4)]) (O' := []) (says_pick [2, 3, 4, 5] [] rfl rfl) ?_
  refine ex_kx (hK1 _ _ ?_)
  refine cw_seq fun K2 hK2 => ?_
  refine cw_seq fun K3 hK3 => ?_
  refine cw_region ?_
  refine nx_o (op_move (.tmp 0 rfl)) rfl ?_
  refine nx_o (op_move (.tmp 2 rfl)) rfl ?_
  obtain ⟨v_r5, hv_r5, h⟩ := bnd h
  refine nx_o (op_call0 (show Fn Go.Proofs.Try.prog 11 [SL 2 cSample v_l1, I v_features2] [] (.tup [I v_r5.1, Er TE v_r5.2]) [] from (f11_fn N v_l1 v_features2 _ hv_r5)) c11 (.cons (.tmp 1 rfl) (.cons (.tmp 0 rfl) .nil))) rfl ?_
  refine nx_o (op_move (.tmp 0 rfl)) rfl ?_
  refine nx_o (op_extract (.tmp 0 rfl) rfl) rfl ?_
  refine nx_o (op_extract (.tmp 1 rfl) rfl) rfl ?_
  refine nx_o (op_assign (.tmp 1 rfl)) rfl ?_
  refine nx_o (op_assign (.tmp 1 rfl)) rfl ?_
  refine nx_nil ?_
  refine Says.ex (S' := [(11, Er TE v_r5.2), (0, SL 2 cSample v_l1), (1, I v_features2), (2, I v_depth3), (3, I v_least4)]) (O' := []) (says_pick [0, 8, 9, 10, 11] [] rfl rfl) ?_
  refine ex_kx (hK3 _ _ ?_)
  refine cw_seq fun K4 hK4 => ?_
  refine cw_region ?_
  refine nx_o (op_move (.tmp 0 rfl)) rfl ?_
  refine nx_o (op_neqNil (.tmp 0 rfl) u28) rfl ?_
  refine nx_nil ?_
  refine Says.ex (S' := [(19, B v_r5.2.isSome), (11, Er TE v_r5.2), (0, SL 2 cSample v_l1), (1, I v_features2), (2, I v_depth3), (3, I v_least4)]) (O' := []) (says_pick [0, 2, 3, 4, 5, 6] [] rfl rfl) ?_
  refine ex_kx (hK4 _ _ ?_)
  refine cw_cond (b := v_r5.2.isSome) (.tmp 0 rfl) (fun hc => ?_) (fun hc => ?_)
  · have h := ite_t hc h
    refine cw_seq fun K5 hK5 => ?_
    refine cw_region ?_
    refine nx_o (op_move (.tmp 1 rfl)) rfl ?_
    refine nx_o (op_assign (Can.raw _ _)) rfl ?_
    refine nx_o (op_assign (.tmp 1 rfl)) rfl ?_
    refine nx_nil ?_
    refine Says.ex (S' := [(9, Er TE v_r5.2), (8, .raw (.slice none 0 0))]) (O' := []) (says_pick [0, 1] [] rfl rfl) ?_
    refine ex_kx (hK5 _ _ ?_)
    refine cw_ret ?_
    refine ex_tr ?_
    refine Says.ex (says_less 8 1 rfl (.nil 6 cNode) rfl) ?_
    show Ex _ _ _ [(9, Er TE v_r5.2), (8, SL 6 cNode [])] []
    cases h
    refine Says.ex (S' := [(8, SL 6 cNode []), (9, Er TE v_r5.2)]) (O' := []) (says_pick [1, 0] [] rfl rfl) ?_
    exact ex_done (.inl rfl) rfl (fun a w G V hs _ hS => resM rfl (.tmp (.tmp 0 rfl) (.tmp (.tmp 1 rfl) .nil)) a w G V hs hS)
  · have h := ite_f hc h
    refine cw_skip ?_
    refine ex_kx (hK2 _ _ ?_)
    refine cw_seq fun K6 hK6 => ?_
    refine cw_seq fun K7 hK7 => ?_
    refine cw_region ?_
    refine nx_o (op_move (.tmp 4 rfl)) rfl ?_
    refine nx_o (op_lss (.tmp 0 rfl) (Can.int _ _ _)) rfl ?_
    refine nx_o (op_move (.tmp 0 rfl)) rfl ?_
    refine nx_g (opy_guard (cc := (!(decide (v_depth3 < 0)))) (.plain 0 rfl) rfl rfl (fun hg => (op_move (.tmp 7 rfl)))) rfl ?_
    refine nx_g (opy_guard (cc := (!(decide (v_depth3 < 0)))) (.plain 1 rfl) rfl rfl (fun hg => (op_gtr (.cd 0 rfl hg) (Can.int _ _ _)))) rfl ?_
    refine nx_o (op_or (.tmp 2 rfl) (fun hp => (.cd 0 rfl (not_t hp)))) rfl ?_
    refine nx_o (op_move (.tmp 0 rfl)) rfl ?_
    refine nx_g (opy_guard (cc := (!((decide (v_depth3 < 0)) || (decide (v_depth3 > 5))))) (.plain 0 rfl) rfl rfl (fun hg => (op_move (.tmp 12 rfl)))) rfl ?_
    obtain ⟨v_r6, hv_r6, h⟩ := bnd h
    refine nx_g (opy_guard (cc := (!((decide (v_depth3 < 0)) || (decide (v_depth3 > 5))))) (.plain 1 rfl) rfl rfl (fun hg => (op_call0 (show Fn Go.Proofs.Try.prog 39 [I v_least4] [] (B v_r6) [] from (f39_fn N v_least4 _ (gd_t hg hv_r6))) c39 (.cons (.cd 0 rfl hg) .nil)))) rfl ?_
    refine nx_g (opy_guard (cc := (!((decide (v_depth3 < 0)) || (decide (v_depth3 > 5))))) (.plain 2 rfl) rfl rfl (fun hg => (op_not (.cd 0 rfl hg)))) rfl ?_
    refine nx_o (op_or (.tmp 3 rfl) (fun hp => (.cd 0 rfl (not_t hp)))) rfl ?_
    refine nx_nil ?_
    refine Says.ex (S' := [(31, B (((decide (v_depth3 < 0)) || (decide (v_depth3 > 5))) || (!v_r6))), (0, SL 2 cSample v_l1), (1, I v_features2), (2, I v_depth3), (3, I v_least4)]) (O' := []) (says_pick [0, 13, 14, 15, 16] [] rfl rfl) ?_
    refine ex_kx (hK7 _ _ ?_)
    refine cw_cond (b := (((decide (v_depth3 < 0)) || (decide (v_depth3 > 5))) || (!v_r6))) (.tmp 0 rfl) (fun hc => ?_) (fun hc => ?_)
    · have h := ite_t hc h
      refine cw_seq fun K8 hK8 => ?_
      refine cw_region ?_
      refine nx_o (op_mkErr (Can.int _ _ _) u95 (fun _ h => by cases h)) rfl ?_
      refine nx_o (op_assign (Can.raw _ _)) rfl ?_
      refine nx_o (op_assign (.tmp 1 rfl)) rfl ?_
      refine nx_nil ?_
      refine Says.ex (S' := [(9, Er TE (some 1)), (8, .raw (.slice none 0 0))]) (O' := []) (says_pick [0, 1] [] rfl rfl) ?_
      refine ex_kx (hK8 _ _ ?_)
      refine cw_ret ?_
      refine ex_tr ?_
      refine Says.ex (says_less 8 1 rfl (.nil 6 cNode) rfl) ?_
      show Ex _ _ _ [(9, Er TE (some 1)), (8, SL 6 cNode [])] []
      cases h
      refine Says.ex (S' := [(8, SL 6 cNode []), (9, Er TE (some 1))]) (O' := []) (says_pick [1, 0] [] rfl rfl) ?_
      exact ex_done (.inl rfl) rfl (fun a w G V hs _ hS => resM rfl (.tmp (.tmp 0 rfl) (.tmp (.tmp 1 rfl) .nil)) a w G V hs hS)
    · have h := ite_f hc h
      refine cw_skip ?_
      refine ex_kx (hK6 _ _ ?_)
      refine cw_seq fun K9 hK9 => ?_
      refine cw_region ?_
      refine nx_o (op_move (.tmp 1 rfl)) rfl ?_
      refine nx_o (op_move (.tmp 3 rfl)) rfl ?_
      refine nx_o (op_move (.tmp 5 rfl)) rfl ?_
      refine nx_o (op_move (.tmp 7 rfl)) rfl ?_
      obtain ⟨v_r7, hv_r7, h⟩ := bnd h
      refine nx_op (op_call (show Fn Go.Proofs.Try.prog 40 [.raw (.slice none 0 0), SL 2 cSample v_l1, I v_features2, I v_depth3, I v_least4] [] (.ref 101) [(101, .row 32 6 cNode v_r7)] from (Fn.swap (Fn.nilArg (f40_fn N [] v_l1 v_features2 v_depth3 v_least4 _ hv_r7) rfl rfl) 11 101)) c40 (.cons (Can.raw _ _) (.cons (.tmp 3 rfl) (.cons (.tmp 2 rfl) (.cons (.tmp 1 rfl) (.cons (.tmp 0 rfl) .nil))))) [] rfl rfl rfl rfl rfl rfl) rfl ?_
      show Nx _ _ _ _ _ [(37, .ref 101), (36, I v_least4), (35, I v_depth3), (34, I v_features2), (33, SL 2 cSample v_l1), (31, B (((decide (v_depth3 < 0)) || (decide (v_depth3 > 5))) || (!v_r6))), (0, SL 2 cSample v_l1), (1, I v_features2), (2, I v_depth3), (3, I v_least4)] [(101, .row 32 6 cNode v_r7)]
      refine nx_o (op_assign (.tmp 0 rfl)) rfl ?_
      refine nx_o (op_assign (Can.nilE _ TE)) rfl ?_
      refine nx_nil ?_
      refine Says.ex (S' := [(9, Er TE none), (8, .ref 101)]) (O' := [(101, .row 32 6 cNode v_r7)]) (says_pick [0, 1] [0] rfl rfl) ?_
      refine ex_kx (hK9 _ _ ?_)
      refine cw_ret ?_
      refine Says.ex (says_freezeRow (k := 101) 0 rfl rfl (fun _ => rfl) rfl rfl) ?_
      show Ex _ _ _ [(9, Er TE none), (8, SL 6 cNode v_r7)] []
      cases h
      refine Says.ex (S' := [(8, SL 6 cNode v_r7), (9, Er TE none)]) (O' := []) (says_pick [1, 0] [] rfl rfl) ?_
      exact ex_done (.inl rfl) rfl (fun a w G V hs _ hS => resM rfl (.tmp (.tmp 0 rfl) (.tmp (.tmp 1 rfl) .nil)) a w G V hs hS)

theorem f3_fn (N : Nat) (v_a1 : List Sample) (v_a2 : Int) (v_a3 : Int) (v_a4 : Int) (v_a5 : Int) (r : Bool) (h : orchlaw4_GrowShifts N v_a1 v_a2 v_a3 v_a4 v_a5 = some r) : Fn Go.Proofs.Try.prog 3 [SL 2 cSample v_a1, I v_a2, I v_a3, I v_a4, I v_a5] [] (B r) [] := by
  unfold orchlaw4_GrowShifts at h
  refine fn_intro [] fun3 rfl rfl (Nat.le_of_ble_eq_true rfl) rfl rfl (fun w G V => ?_)
  show Cw _ _ _ _ [(0, SL 2 cSample v_a1), (1, I v_a2), (2, I v_a3), (3, I v_a4), (4, I v_a5)] []
  refine cw_seq fun K1 hK1 => ?_
  refine cw_region ?_
  refine nx_o (op_assign (Can.bool _ _)) rfl ?_
  refine nx_nil ?_
  refine Says.ex (S' := [(0, SL 2 cSample v_a1), (1, I v_a2), (2, I v_a3), (3, I v_a4), (4, I v_a5)]) (O' := []) (says_pick [1, 2, 3, 4, 5] [] rfl rfl) ?_
  refine ex_kx (hK1 _ _ ?_)
  refine cw_seq fun K2 hK2 => ?_
  refine cw_region ?_
  refine nx_o (op_buildSlice (cI 0) (n := 1) (c := cI) ([1] : List Int) bl23 zI (by decide) (by decide) (.cons (.c (Can.int _ _ _)) rfl (Nat.le_of_ble_eq_true rfl) .nil) rfl rfl (fun _ => rfl)) rfl ?_
  refine nx_o (op_build (l := (cSample (Sample.mk [1] 5))) (cSample (Sample.mk [] 0)) bs25 zSample (.cons (.c (.tmp 0 rfl)) rfl (Nat.le_of_ble_eq_true rfl) (.cons (.c (Can.int _ _ _)) rfl (Nat.le_of_ble_eq_true rfl) .nil)) rfl) rfl ?_
  refine nx_o (op_buildSlice (cI 0) (n := 1) (c := cI) ([2] : List Int) bl23 zI (by decide) (by decide) (.cons (.c (Can.int _ _ _)) rfl (Nat.le_of_ble_eq_true rfl) .nil) rfl rfl (fun _ => rfl)) rfl ?_
  refine nx_o (op_build (l := (cSample (Sample.mk [2] 9))) (cSample (Sample.mk [] 0)) bs25 zSample (.cons (.c (.tmp 0 rfl)) rfl (Nat.le_of_ble_eq_true rfl) (.cons (.c (Can.int _ _ _)) rfl (Nat.le_of_ble_eq_true rfl) .nil)) rfl) rfl ?_
  refine nx_o (op_buildSlice (cSample (Sample.mk [] 0)) (n := 2) (c := cSample) ([(Sample.mk [1] 5), (Sample.mk [2] 9)] : List Sample) bl22 zSample (by decide) (by decide) (.cons (.agg (.tmp 2 rfl)) rfl (Nat.le_of_ble_eq_true rfl) (.cons (.agg (.tmp 0 rfl)) rfl (Nat.le_of_ble_eq_true rfl) .nil)) rfl rfl (fun _ => rfl)) rfl ?_
  refine nx_o (op_assign (.tmp 0 rfl)) rfl ?_
  refine nx_nil ?_
  refine Says.ex (S' := [(11, SL 2 cSample [(Sample.mk [1] 5), (Sample.mk [2] 9)]), (0, SL 2 cSample v_a1), (1, I v_a2), (2, I v_a3), (3, I v_a4), (4, I v_a5)]) (O' := []) (says_pick [0, 6, 7, 8, 9, 10] [] rfl rfl) ?_
  refine ex_kx (hK2 _ _ ?_)
  refine cw_seq fun K3 hK3 => ?_
  refine cw_region ?_
  refine nx_o (op_move (.tmp 0 rfl)) rfl ?_
  obtain ⟨v_r6, hv_r6, h⟩ := bnd h
  refine nx_o (op_call0 (show Fn Go.Proofs.Try.prog 10 [SL 2 cSample [(Sample.mk [1] 5), (Sample.mk [2] 9)], I 1, I 1, I 1] [] (.tup [SL 6 cNode v_r6.1, Er TE v_r6.2]) [] from (f10_fn N [(Sample.mk [1] 5), (Sample.mk [2] 9)] 1 1 1 _ hv_r6)) c10 (.cons (.tmp 0 rfl) (.cons (Can.int _ _ _) (.cons (Can.int _ _ _) (.cons (Can.int _ _ _) .nil))))) rfl ?_
  refine nx_o (op_move (.tmp 0 rfl)) rfl ?_
  refine nx_o (op_extract (.tmp 0 rfl) rfl) rfl ?_
  refine nx_o (op_extract (.tmp 1 rfl) rfl) rfl ?_
  refine nx_o (op_assign (.tmp 1 rfl)) rfl ?_
  refine nx_o (op_assign (.tmp 1 rfl)) rfl ?_
  refine nx_nil ?_
  refine Says.ex (S' := [(13, Er TE v_r6.2), (12, SL 6 cNode v_r6.1), (0, SL 2 cSample v_a1), (1, I v_a2), (2, I v_a3), (3, I v_a4), (4, I v_a5)]) (O' := []) (says_pick [0, 1, 8, 9, 10, 11, 12] [] rfl rfl) ?_
  refine ex_kx (hK3 _ _ ?_)
  refine cw_seq fun K4 hK4 => ?_
  refine cw_seq fun K5 hK5 => ?_
  refine cw_region ?_
  refine nx_o (op_move (.tmp 0 rfl)) rfl ?_
  refine nx_o (op_neqNil (.tmp 0 rfl) u28) rfl ?_
  refine nx_o (op_move (.tmp 0 rfl)) rfl ?_
  refine nx_g (opy_guard (cc := (!v_r6.2.isSome)) (.plain 0 rfl) rfl rfl (fun hg => (op_move (.tmp 4 rfl)))) rfl ?_
  refine nx_g (opy_guard (cc := (!v_r6.2.isSome)) (.plain 1 rfl) rfl rfl (fun hg => (op_len (.cd 0 rfl hg) u26))) rfl ?_
  refine nx_g (opy_guard (cc := (!v_r6.2.isSome)) (.plain 2 rfl) rfl rfl (fun hg => (op_neq (.cd 0 rfl hg) (Can.int _ _ _)))) rfl ?_
  refine nx_o (op_or (.tmp 3 rfl) (fun hp => (.cd 0 rfl (not_t hp)))) rfl ?_
  refine nx_o (op_move (.tmp 0 rfl)) rfl ?_
  refine nx_g (opy_guard (cc := (!(v_r6.2.isSome || ((v_r6.1.length : Int) != 3)))) (.plain 0 rfl) rfl rfl (fun hg => (op_move (.tmp 9 rfl)))) rfl ?_
  obtain ⟨v_y7, hv_y7, h⟩ := bnd h
  refine nx_g (opy_guard (cc := (!(v_r6.2.isSome || ((v_r6.1.length : Int) != 3)))) (.plain 1 rfl) rfl rfl (fun hg => (op_indexX (gd_t hg hv_y7) (.cd 0 rfl hg) (Can.int _ _ _) u26 s32))) rfl ?_
  refine nx_g (opy_guard (cc := (!(v_r6.2.isSome || ((v_r6.1.length : Int) != 3)))) (.plain 2 rfl) rfl rfl (fun hg => (op_field (.cd 0 rfl hg) o32_5))) rfl ?_
  refine nx_g (opy_guard (cc := (!(v_r6.2.isSome || ((v_r6.1.length : Int) != 3)))) (.plain 3 rfl) rfl rfl (fun hg => (op_load1 (.cd 0 rfl hg) a3))) rfl ?_
  refine nx_g (opy_guard (cc := (!(v_r6.2.isSome || ((v_r6.1.length : Int) != 3)))) (.plain 4 rfl) rfl rfl (fun hg => (op_neq (.cd 0 rfl hg) (Can.int _ _ _)))) rfl ?_
  refine nx_o (op_or (.tmp 5 rfl) (fun hp => (.cd 0 rfl (not_t hp)))) rfl ?_
  refine nx_nil ?_
  refine Says.ex (S' := [(47, B ((v_r6.2.isSome || ((v_r6.1.length : Int) != 3)) || (v_y7.value != 5))), (0, SL 2 cSample v_a1), (1, I v_a2), (2, I v_a3), (3, I v_a4), (4, I v_a5)]) (O' := []) (says_pick [0, 16, 17, 18, 19, 20] [] rfl rfl) ?_
  refine ex_kx (hK5 _ _ ?_)
  refine cw_cond (b := ((v_r6.2.isSome || ((v_r6.1.length : Int) != 3)) || (v_y7.value != 5))) (.tmp 0 rfl) (fun hc => ?_) (fun hc => ?_)
  · have h := ite_t hc h
    refine cw_seq fun K6 hK6 => ?_
    refine cw_region ?_
    refine nx_o (op_assign (Can.bool _ _)) rfl ?_
    refine nx_nil ?_
    refine Says.ex (S' := [(10, B false)]) (O' := []) (says_pick [0] [] rfl rfl) ?_
    refine ex_kx (hK6 _ _ ?_)
    refine cw_ret ?_
    refine ex_tr ?_
    cases h
    exact ex_done (.inl rfl) rfl (fun a w G V hs _ hS => res1 rfl (.tmp 0 rfl) a w G V hS)
  · have h := ite_f hc h
    refine cw_skip ?_
    refine ex_kx (hK4 _ _ ?_)
    refine cw_seq fun K7 hK7 => ?_
    refine cw_region ?_
    refine nx_o (op_move (.tmp 1 rfl)) rfl ?_
    refine nx_o (op_move (.tmp 3 rfl)) rfl ?_
    refine nx_o (op_move (.tmp 5 rfl)) rfl ?_
    refine nx_o (op_move (.tmp 7 rfl)) rfl ?_
    obtain ⟨v_r8, hv_r8, h⟩ := bnd h
    refine nx_o (op_call0 (show Fn Go.Proofs.Try.prog 10 [SL 2 cSample v_a1, I v_a2, I v_a3, I v_a4] [] (.tup [SL 6 cNode v_r8.1, Er TE v_r8.2]) [] from (f10_fn N v_a1 v_a2 v_a3 v_a4 _ hv_r8)) c10 (.cons (.tmp 3 rfl) (.cons (.tmp 2 rfl) (.cons (.tmp 1 rfl) (.cons (.tmp 0 rfl) .nil))))) rfl ?_
    refine nx_o (op_move (.tmp 0 rfl)) rfl ?_
    refine nx_o (op_extract (.tmp 0 rfl) rfl) rfl ?_
    refine nx_o (op_extract (.tmp 1 rfl) rfl) rfl ?_
    refine nx_o (op_assign (.tmp 1 rfl)) rfl ?_
    refine nx_o (op_assign (.tmp 1 rfl)) rfl ?_
    refine nx_nil ?_
    refine Says.ex (S' := [(15, Er TE v_r8.2), (14, SL 6 cNode v_r8.1), (0, SL 2 cSample v_a1), (1, I v_a2), (2, I v_a3), (3, I v_a4), (4, I v_a5)]) (O' := []) (says_pick [0, 1, 11, 12, 13, 14, 15] [] rfl rfl) ?_
    refine ex_kx (hK7 _ _ ?_)
    refine cw_seq fun K8 hK8 => ?_
    refine cw_seq fun K9 hK9 => ?_
    refine cw_region ?_
    refine nx_o (op_move (.tmp 0 rfl)) rfl ?_
    refine nx_o (op_neqNil (.tmp 0 rfl) u28) rfl ?_
    refine nx_o (op_move (.tmp 0 rfl)) rfl ?_
    refine nx_g (opy_guard (cc := (!v_r8.2.isSome)) (.plain 0 rfl) rfl rfl (fun hg => (op_move (.tmp 9 rfl)))) rfl ?_
    refine nx_g (opy_guard (cc := (!v_r8.2.isSome)) (.plain 1 rfl) rfl rfl (fun hg => (op_lss (.cd 0 rfl hg) (Can.int _ _ _)))) rfl ?_
    refine nx_o (op_or (.tmp 2 rfl) (fun hp => (.cd 0 rfl (not_t hp)))) rfl ?_
    refine nx_o (op_move (.tmp 0 rfl)) rfl ?_
    refine nx_g (opy_guard (cc := (!(v_r8.2.isSome || (decide (v_a5 < (-2000)))))) (.plain 0 rfl) rfl rfl (fun hg => (op_move (.tmp 13 rfl)))) rfl ?_
    refine nx_g (opy_guard (cc := (!(v_r8.2.isSome || (decide (v_a5 < (-2000)))))) (.plain 1 rfl) rfl rfl (fun hg => (op_gtr (.cd 0 rfl hg) (Can.int _ _ _)))) rfl ?_
    refine nx_o (op_or (.tmp 2 rfl) (fun hp => (.cd 0 rfl (not_t hp)))) rfl ?_
    refine nx_nil ?_
    refine Says.ex (S' := [(65, B ((v_r8.2.isSome || (decide (v_a5 < (-2000)))) || (decide (v_a5 > 2000)))), (14, SL 6 cNode v_r8.1), (0, SL 2 cSample v_a1), (1, I v_a2), (2, I v_a3), (3, I v_a4), (4, I v_a5)]) (O' := []) (says_pick [0, 11, 12, 13, 14, 15, 16] [] rfl rfl) ?_
    refine ex_kx (hK9 _ _ ?_)
    refine cw_cond (b := ((v_r8.2.isSome || (decide (v_a5 < (-2000)))) || (decide (v_a5 > 2000)))) (.tmp 0 rfl) (fun hc => ?_) (fun hc => ?_)
    · have h := ite_t hc h
      refine cw_seq fun K10 hK10 => ?_
      refine cw_region ?_
      refine nx_o (op_assign (Can.bool _ _)) rfl ?_
      refine nx_nil ?_
      refine Says.ex (S' := [(10, B true)]) (O' := []) (says_pick [0] [] rfl rfl) ?_
      refine ex_kx (hK10 _ _ ?_)
      refine cw_ret ?_
      refine ex_tr ?_
      cases h
      exact ex_done (.inl rfl) rfl (fun a w G V hs _ hS => res1 rfl (.tmp 0 rfl) a w G V hS)
    · have h := ite_f hc h
      refine cw_skip ?_
      refine ex_kx (hK8 _ _ ?_)
      refine cw_seq fun K11 hK11 => ?_
      refine cw_region ?_
      refine nx_o (op_assign (Can.raw _ _)) rfl ?_
      refine nx_nil ?_
      refine Says.ex (S' := [(16, .raw (.slice none 0 0)), (14, SL 6 cNode v_r8.1), (0, SL 2 cSample v_a1), (1, I v_a2), (2, I v_a3), (3, I v_a4), (4, I v_a5)]) (O' := []) (says_pick [0, 2, 3, 4, 5, 6, 7] [] rfl rfl) ?_
      refine ex_kx (hK11 _ _ ?_)
      refine cw_join (fun S O => ∃ (v_t22 : List Sample), orchlaw4_GrowShifts_j1 N v_a2 v_a3 v_a4 v_r8 v_a5 v_t22 = some r ∧ S = [(1, I v_a2), (2, I v_a3), (3, I v_a4), (4, I v_a5), (14, SL 6 cNode v_r8.1), (16, .ref 102)] ∧ O = [(102, .row 25 2 cSample v_t22)]) ?_ (fun K24 hK24 => ?_)
      · rintro S O ⟨v_t22, h, rfl, rfl⟩
        unfold orchlaw4_GrowShifts_j1 at h
        refine cw_seq fun K25 hK25 => ?_
        refine cw_region ?_
        refine nx_o (op_move (.tmp 5 rfl)) rfl ?_
        refine nx_o (op_move (.tmp 1 rfl)) rfl ?_
        refine nx_o (op_move (.tmp 3 rfl)) rfl ?_
        refine nx_o (op_move (.tmp 5 rfl)) rfl ?_
        refine Says.nx (says_freezeRow (k := 102) 0 rfl rfl (fun _ => rfl) rfl rfl) ?_
        show Nx _ _ _ _ _ [(92, I v_a4), (91, I v_a3), (90, I v_a2), (89, SL 2 cSample v_t22), (1, I v_a2), (2, I v_a3), (3, I v_a4), (4, I v_a5), (14, SL 6 cNode v_r8.1), (16, SL 2 cSample v_t22)] []
        obtain ⟨v_r23, hv_r23, h⟩ := bnd h
        refine nx_o (op_call0 (show Fn Go.Proofs.Try.prog 10 [SL 2 cSample v_t22, I v_a2, I v_a3, I v_a4] [] (.tup [SL 6 cNode v_r23.1, Er TE v_r23.2]) [] from (f10_fn N v_t22 v_a2 v_a3 v_a4 _ hv_r23)) c10 (.cons (.tmp 3 rfl) (.cons (.tmp 2 rfl) (.cons (.tmp 1 rfl) (.cons (.tmp 0 rfl) .nil))))) rfl ?_
        refine nx_o (op_move (.tmp 0 rfl)) rfl ?_
        refine nx_o (op_extract (.tmp 0 rfl) rfl) rfl ?_
        refine nx_o (op_extract (.tmp 1 rfl) rfl) rfl ?_
        refine nx_o (op_assign (.tmp 1 rfl)) rfl ?_
        refine nx_o (op_assign (.tmp 1 rfl)) rfl ?_
        refine nx_nil ?_
        refine Says.ex (S' := [(19, Er TE v_r23.2), (18, SL 6 cNode v_r23.1), (1, I v_a2), (4, I v_a5), (14, SL 6 cNode v_r8.1), (16, SL 2 cSample v_t22)]) (O' := []) (says_pick [0, 1, 10, 13, 14, 15] [] rfl rfl) ?_
        refine ex_kx (hK25 _ _ ?_)
        refine cw_seq fun K26 hK26 => ?_
        refine cw_seq fun K27 hK27 => ?_
        refine cw_region ?_
        refine nx_o (op_move (.tmp 0 rfl)) rfl ?_
        refine nx_o (op_neqNil (.tmp 0 rfl) u28) rfl ?_
        refine nx_nil ?_
        refine Says.ex (S' := [(97, B v_r23.2.isSome), (18, SL 6 cNode v_r23.1), (1, I v_a2), (4, I v_a5), (14, SL 6 cNode v_r8.1), (16, SL 2 cSample v_t22)]) (O' := []) (says_pick [0, 3, 4, 5, 6, 7] [] rfl rfl) ?_
        refine ex_kx (hK27 _ _ ?_)
        refine cw_cond (b := v_r23.2.isSome) (.tmp 0 rfl) (fun hc => ?_) (fun hc => ?_)
        · have h := ite_t hc h
          refine cw_seq fun K28 hK28 => ?_
          refine cw_region ?_
          refine nx_o (op_move (.tmp 5 rfl)) rfl ?_
          refine nx_o (op_move (.tmp 3 rfl)) rfl ?_
          obtain ⟨v_r24, hv_r24, h⟩ := bnd h
          refine nx_o (op_call0 (show Fn Go.Proofs.Try.prog 11 [SL 2 cSample v_t22, I v_a2] [] (.tup [I v_r24.1, Er TE v_r24.2]) [] from (f11_fn N v_t22 v_a2 _ hv_r24)) c11 (.cons (.tmp 1 rfl) (.cons (.tmp 0 rfl) .nil))) rfl ?_
          refine nx_o (op_move (.tmp 0 rfl)) rfl ?_
          refine nx_o (op_extract (.tmp 0 rfl) rfl) rfl ?_
          refine nx_o (op_extract (.tmp 1 rfl) rfl) rfl ?_
          refine nx_o (op_assign (.tmp 1 rfl)) rfl ?_
          refine nx_o (op_assign (.tmp 1 rfl)) rfl ?_
          refine nx_nil ?_
          refine Says.ex (S' := [(21, Er TE v_r24.2)]) (O' := []) (says_pick [0] [] rfl rfl) ?_
          refine ex_kx (hK28 _ _ ?_)
          refine cw_seq fun K29 hK29 => ?_
          refine cw_region ?_
          refine nx_o (op_move (.tmp 0 rfl)) rfl ?_
          refine nx_o (op_neqNil (.tmp 0 rfl) u28) rfl ?_
          refine nx_o (op_assign (.tmp 0 rfl)) rfl ?_
          refine nx_nil ?_
          refine Says.ex (S' := [(10, B v_r24.2.isSome)]) (O' := []) (says_pick [0] [] rfl rfl) ?_
          refine ex_kx (hK29 _ _ ?_)
          refine cw_ret ?_
          refine ex_tr ?_
          cases h
          exact ex_done (.inl rfl) rfl (fun a w G V hs _ hS => res1 rfl (.tmp 0 rfl) a w G V hS)
        · have h := ite_f hc h
          refine cw_skip ?_
          refine ex_kx (hK26 _ _ ?_)
          refine cw_seq fun K30 hK30 => ?_
          refine cw_seq fun K31 hK31 => ?_
          refine cw_region ?_
          refine nx_o (op_move (.tmp 1 rfl)) rfl ?_
          refine nx_o (op_len (.tmp 0 rfl) u26) rfl ?_
          refine nx_o (op_move (.tmp 6 rfl)) rfl ?_
          refine nx_o (op_len (.tmp 0 rfl) u26) rfl ?_
          refine nx_o (op_neq (.tmp 2 rfl) (.tmp 0 rfl)) rfl ?_
          refine nx_nil ?_
          refine Says.ex (S' := [(110, B ((v_r23.1.length : Int) != (v_r8.1.length : Int))), (18, SL 6 cNode v_r23.1), (4, I v_a5), (14, SL 6 cNode v_r8.1)]) (O' := []) (says_pick [0, 6, 8, 9] [] rfl rfl) ?_
          refine ex_kx (hK31 _ _ ?_)
          refine cw_cond (b := ((v_r23.1.length : Int) != (v_r8.1.length : Int))) (.tmp 0 rfl) (fun hc => ?_) (fun hc => ?_)
          · have h := ite_t hc h
            refine cw_seq fun K32 hK32 => ?_
            refine cw_region ?_
            refine nx_o (op_assign (Can.bool _ _)) rfl ?_
            refine nx_nil ?_
            refine Says.ex (S' := [(10, B false)]) (O' := []) (says_pick [0] [] rfl rfl) ?_
            refine ex_kx (hK32 _ _ ?_)
            refine cw_ret ?_
            refine ex_tr ?_
            cases h
            exact ex_done (.inl rfl) rfl (fun a w G V hs _ hS => res1 rfl (.tmp 0 rfl) a w G V hS)
          · have h := ite_f hc h
            refine cw_skip ?_
            refine ex_kx (hK30 _ _ ?_)
            refine cw_join (fun S O => orchlaw4_GrowShifts_j2 N = some r ∧ S = [] ∧ O = []) ?_ (fun K66 hK66 => ?_)
            · rintro S O ⟨h, rfl, rfl⟩
              unfold orchlaw4_GrowShifts_j2 at h
              refine cw_seq fun K67 hK67 => ?_
              refine cw_region ?_
              refine nx_o (op_assign (Can.bool _ _)) rfl ?_
              refine nx_nil ?_
              refine ex_kx (hK67 _ _ ?_)
              refine cw_ret ?_
              cases h
              exact ex_done (.inl rfl) rfl (fun a w G V hs _ hS => res1 rfl (.tmp 0 rfl) a w G V hS)
            ·
              refine cw_seq fun K68 hK68 => ?_
              refine cw_region ?_
              refine nx_o (op_assign (Can.int _ _ _)) rfl ?_
              refine nx_nil ?_
              refine Says.ex (S' := [(22, I 0), (18, SL 6 cNode v_r23.1), (4, I v_a5), (14, SL 6 cNode v_r8.1)]) (O' := []) (says_pick [0, 2, 3, 4] [] rfl rfl) ?_
              refine ex_kx (hK68 _ _ ?_)
              refine cw_block ?_
              refine Says.cw (S' := [(4, I v_a5), (14, SL 6 cNode v_r8.1), (18, SL 6 cNode v_r23.1), (22, I 0)]) (O' := []) (says_pick [2, 3, 1, 0] [] rfl rfl) ?_
              refine cw_loopJ (fun n S O => ∃ (v_t43 : Int), orchlaw4_GrowShifts_l1 N v_r23 v_r8 v_a5 n v_t43 = some r ∧ S = [(4, I v_a5), (14, SL 6 cNode v_r8.1), (18, SL 6 cNode v_r23.1), (22, I v_t43)] ∧ O = []) ?_ ?_ N ⟨0, h, rfl, rfl⟩
              · rintro S O ⟨v_t43, h, -, -⟩
                simp [orchlaw4_GrowShifts_l1] at h
              · rintro n_1 S O ⟨v_t43, h, rfl, rfl⟩ K89 hK89
                rw [orchlaw4_GrowShifts_l1] at h
                refine cw_seq fun K90 hK90 => ?_
                refine cw_seq fun K91 hK91 => ?_
                refine cw_region ?_
                refine nx_o (op_move (.tmp 3 rfl)) rfl ?_
                refine nx_o (op_move (.tmp 3 rfl)) rfl ?_
                refine nx_o (op_len (.tmp 0 rfl) u26) rfl ?_
                refine nx_o (op_lss (.tmp 2 rfl) (.tmp 0 rfl)) rfl ?_
                refine nx_nil ?_
                refine Says.ex (S' := [(114, B (decide (v_t43 < (v_r23.1.length : Int)))), (4, I v_a5), (14, SL 6 cNode v_r8.1), (18, SL 6 cNode v_r23.1), (22, I v_t43)]) (O' := []) (says_pick [0, 4, 5, 6, 7] [] rfl rfl) ?_
                refine ex_kx (hK91 _ _ ?_)
                refine cw_cond (b := (decide (v_t43 < (v_r23.1.length : Int)))) (.tmp 0 rfl) (fun hc => ?_) (fun hc => ?_)
                · have h := ite_t hc h
                  refine cw_skip ?_
                  refine ex_kx (hK90 _ _ ?_)
                  refine cw_seq fun K92 hK92 => ?_
                  refine cw_block ?_
                  refine cw_seq fun K93 hK93 => ?_
                  refine cw_region ?_
                  refine nx_o (op_move (.tmp 2 rfl)) rfl ?_
                  refine nx_o (op_move (.tmp 5 rfl)) rfl ?_
                  obtain ⟨v_y44, hv_y44, h⟩ := bnd h
                  refine nx_o (op_indexX hv_y44 (.tmp 1 rfl) (.tmp 0 rfl) u26 s32) rfl ?_
                  refine nx_o (op_loadA (cNode v_y44) (.tmp 0 rfl) a32 s32 rfl) rfl ?_
                  refine nx_op (op_alloc 110 (cNode (Node.mk 0 0 0 0 false 0)) za32 zNode rfl) rfl ?_
                  show Nx _ _ _ _ _ [(23, .ref 110), (120, .agg (cNode v_y44)), (119, .ptr (cNode v_y44)), (118, I v_t43), (117, SL 6 cNode v_r8.1), (114, B (decide (v_t43 < (v_r23.1.length : Int)))), (4, I v_a5), (14, SL 6 cNode v_r8.1), (18, SL 6 cNode v_r23.1), (22, I v_t43)] [(110, .var 32 [I 0, I 0, I 0, I 0, B false, I 0])]
                  refine nx_o0 (op_storeVA (its := (cNode v_y44)) (.tmp 0 rfl) 0 rfl (.agg (.tmp 1 rfl)) rfl s32) ?_
                  show Nx _ _ _ _ _ [(23, .ref 110), (120, .agg (cNode v_y44)), (119, .ptr (cNode v_y44)), (118, I v_t43), (117, SL 6 cNode v_r8.1), (114, B (decide (v_t43 < (v_r23.1.length : Int)))), (4, I v_a5), (14, SL 6 cNode v_r8.1), (18, SL 6 cNode v_r23.1), (22, I v_t43)] [(110, .var 32 [I v_y44.feature, I v_y44.cut, I v_y44.left, I v_y44.right, B v_y44.less, I v_y44.value])]
                  refine nx_nil ?_
                  refine Says.ex (S' := [(23, .ref 110), (4, I v_a5), (14, SL 6 cNode v_r8.1), (18, SL 6 cNode v_r23.1), (22, I v_t43)]) (O' := [(110, .var 32 [I v_y44.feature, I v_y44.cut, I v_y44.left, I v_y44.right, B v_y44.less, I v_y44.value])]) (says_pick [0, 6, 7, 8, 9] [0] rfl rfl) ?_
                  refine ex_kx (hK93 _ _ ?_)
                  refine cw_join (fun S O => ∃ (v_t45 : Int), orchlaw4_GrowShifts_j3 N v_r23 v_t43 v_y44 (orchlaw4_GrowShifts_l1 N v_r23 v_r8 v_a5 n_1) v_t45 = some r ∧ S = [(4, I v_a5), (14, SL 6 cNode v_r8.1), (18, SL 6 cNode v_r23.1), (22, I v_t43), (23, .ref 110)] ∧ O = [(110, .var 32 [I v_y44.feature, I v_y44.cut, I v_y44.left, I v_y44.right, B v_y44.less, I v_t45])]) ?_ (fun K95 hK95 => ?_)
                  · rintro S O ⟨v_t45, h, rfl, rfl⟩
                    unfold orchlaw4_GrowShifts_j3 at h
                    refine cw_seq fun K96 hK96 => ?_
                    obtain ⟨v_y46, hv_y46, h⟩ := bnd h
                    refine cw_draw (Plan.mk [] [[], [], [0, 1], [0, 1, 2], [], [0, 1, 2, 3, 4]] [[(4, I v_a5), (14, SL 6 cNode v_r8.1), (18, SL 6 cNode v_r23.1), (22, I v_t43), (23, .ref 110)]] [[(110, .var 32 [I v_y44.feature, I v_y44.cut, I v_y44.left, I v_y44.right, B v_y44.less, I v_t45])]] [(129, SL 6 cNode v_r23.1), (130, I v_t43), (131, .ptr (cNode v_y46)), (132, .agg (cNode v_y46)), (133, .agg (cNode (Node.mk v_y44.feature v_y44.cut v_y44.left v_y44.right v_y44.less v_t45))), (134, B (!(eqNode v_y46 (Node.mk v_y44.feature v_y44.cut v_y44.left v_y44.right v_y44.less v_t45))))]) mixed rfl rfl rfl rfl ?_ ?_ ?_
                    · exact (And.intro (fun _ => (And.intro (show OpY _ _ _ [(4, I v_a5), (14, SL 6 cNode v_r8.1), (18, SL 6 cNode v_r23.1), (22, I v_t43), (23, .ref 110)] [(110, .var 32 [I v_y44.feature, I v_y44.cut, I v_y44.left, I v_y44.right, B v_y44.less, I v_t45])] _ (SL 6 cNode v_r23.1) [(110, .var 32 [I v_y44.feature, I v_y44.cut, I v_y44.left, I v_y44.right, B v_y44.less, I v_t45])] allp from (OpX.y (op_move (.tmp 2 rfl)) rfl)) trivial)) (And.intro (fun _ => (And.intro (show OpY _ _ _ [(4, I v_a5), (14, SL 6 cNode v_r8.1), (18, SL 6 cNode v_r23.1), (22, I v_t43), (23, .ref 110)] [(110, .var 32 [I v_y44.feature, I v_y44.cut, I v_y44.left, I v_y44.right, B v_y44.less, I v_t45])] _ (I v_t43) [(110, .var 32 [I v_y44.feature, I v_y44.cut, I v_y44.left, I v_y44.right, B v_y44.less, I v_t45])] allp from (OpX.y (op_move (.tmp 3 rfl)) rfl)) trivial)) (And.intro (fun _ => (And.intro (show OpY _ _ _ [(4, I v_a5), (14, SL 6 cNode v_r8.1), (18, SL 6 cNode v_r23.1), (22, I v_t43), (23, .ref 110), (129, SL 6 cNode v_r23.1), (130, I v_t43)] [(110, .var 32 [I v_y44.feature, I v_y44.cut, I v_y44.left, I v_y44.right, B v_y44.less, I v_t45])] _ (.ptr (cNode v_y46)) [(110, .var 32 [I v_y44.feature, I v_y44.cut, I v_y44.left, I v_y44.right, B v_y44.less, I v_t45])] allp from (OpX.y (op_indexX hv_y46 (.tmp 5 rfl) (.tmp 6 rfl) u26 s32) rfl)) trivial)) (And.intro (fun _ => (And.intro (show OpY _ _ _ [(4, I v_a5), (14, SL 6 cNode v_r8.1), (18, SL 6 cNode v_r23.1), (22, I v_t43), (23, .ref 110), (129, SL 6 cNode v_r23.1), (130, I v_t43), (131, .ptr (cNode v_y46))] [(110, .var 32 [I v_y44.feature, I v_y44.cut, I v_y44.left, I v_y44.right, B v_y44.less, I v_t45])] _ (.agg (cNode v_y46)) [(110, .var 32 [I v_y44.feature, I v_y44.cut, I v_y44.left, I v_y44.right, B v_y44.less, I v_t45])] allp from (OpX.y (op_loadA (cNode v_y46) (.tmp 7 rfl) a32 s32 rfl) rfl)) trivial)) (And.intro (fun _ => (And.intro (show OpY _ _ _ [(4, I v_a5), (14, SL 6 cNode v_r8.1), (18, SL 6 cNode v_r23.1), (22, I v_t43), (23, .ref 110)] [(110, .var 32 [I v_y44.feature, I v_y44.cut, I v_y44.left, I v_y44.right, B v_y44.less, I v_t45])] _ (.agg (cNode (Node.mk v_y44.feature v_y44.cut v_y44.left v_y44.right v_y44.less v_t45))) [(110, .var 32 [I v_y44.feature, I v_y44.cut, I v_y44.left, I v_y44.right, B v_y44.less, I v_t45])] allp from (OpX.y (op_loadVA (its := (cNode (Node.mk v_y44.feature v_y44.cut v_y44.left v_y44.right v_y44.less v_t45))) (.tmp 4 rfl) 0 rfl a32 s32) rfl)) trivial)) (And.intro (fun _ => (And.intro (show OpY _ _ _ [(4, I v_a5), (14, SL 6 cNode v_r8.1), (18, SL 6 cNode v_r23.1), (22, I v_t43), (23, .ref 110), (129, SL 6 cNode v_r23.1), (130, I v_t43), (131, .ptr (cNode v_y46)), (132, .agg (cNode v_y46)), (133, .agg (cNode (Node.mk v_y44.feature v_y44.cut v_y44.left v_y44.right v_y44.less v_t45)))] [(110, .var 32 [I v_y44.feature, I v_y44.cut, I v_y44.left, I v_y44.right, B v_y44.less, I v_t45])] _ (B (!(eqNode v_y46 (Node.mk v_y44.feature v_y44.cut v_y44.left v_y44.right v_y44.less v_t45)))) [(110, .var 32 [I v_y44.feature, I v_y44.cut, I v_y44.left, I v_y44.right, B v_y44.less, I v_t45])] allp from (OpX.y (op_neqA (.tmp 8 rfl) (.tmp 9 rfl) sf32 (eql32 v_y46 (Node.mk v_y44.feature v_y44.cut v_y44.left v_y44.right v_y44.less v_t45))) rfl)) trivial)) trivial))))))
                    · exact trivial
                    show Ex _ _ _ [(4, I v_a5), (14, SL 6 cNode v_r8.1), (18, SL 6 cNode v_r23.1), (22, I v_t43), (23, .ref 110), (129, SL 6 cNode v_r23.1), (130, I v_t43), (131, .ptr (cNode v_y46)), (132, .agg (cNode v_y46)), (133, .agg (cNode (Node.mk v_y44.feature v_y44.cut v_y44.left v_y44.right v_y44.less v_t45))), (134, B (!(eqNode v_y46 (Node.mk v_y44.feature v_y44.cut v_y44.left v_y44.right v_y44.less v_t45))))] [(110, .var 32 [I v_y44.feature, I v_y44.cut, I v_y44.left, I v_y44.right, B v_y44.less, I v_t45])]
                    refine Says.ex (S' := [(4, I v_a5), (14, SL 6 cNode v_r8.1), (18, SL 6 cNode v_r23.1), (22, I v_t43), (134, B (!(eqNode v_y46 (Node.mk v_y44.feature v_y44.cut v_y44.left v_y44.right v_y44.less v_t45))))]) (O' := []) (says_pick [0, 1, 2, 3, 10] [] rfl rfl) ?_
                    refine ex_kx (hK96 _ _ ?_)
                    refine cw_cond (b := (!(eqNode v_y46 (Node.mk v_y44.feature v_y44.cut v_y44.left v_y44.right v_y44.less v_t45)))) (.tmp 4 rfl) (fun hc => ?_) (fun hc => ?_)
                    · have h := ite_t hc h
                      refine cw_seq fun K97 hK97 => ?_
                      refine cw_region ?_
                      refine nx_o (op_assign (Can.bool _ _)) rfl ?_
                      refine nx_nil ?_
                      refine Says.ex (S' := [(10, B false)]) (O' := []) (says_pick [0] [] rfl rfl) ?_
                      refine ex_kx (hK97 _ _ ?_)
                      refine cw_ret ?_
                      refine ex_br ?_
                      refine ex_tr ?_
                      refine ex_tr ?_
                      refine ex_br ?_
                      refine ex_tr ?_
                      cases h
                      exact ex_done (.inl rfl) rfl (fun a w G V hs _ hS => res1 rfl (.tmp 0 rfl) a w G V hS)
                    · have h := ite_f hc h
                      refine cw_skip ?_
                      refine ex_bn ?_
                      refine ex_kx (hK92 _ _ ?_)
                      refine cw_region ?_
                      refine nx_o (op_move (.tmp 3 rfl)) rfl ?_
                      refine nx_o (op_add (.tmp 0 rfl) (Can.int _ _ _)) rfl ?_
                      refine nx_k [0, 1, 2, 3, 4, 6] (op_assign (.tmp 0 rfl)) rfl rfl ?_
                      show Nx _ _ _ _ _ [(22, I (w64 (v_t43 + 1))), (116, I (w64 (v_t43 + 1))), (115, I v_t43), (4, I v_a5), (14, SL 6 cNode v_r8.1), (18, SL 6 cNode v_r23.1), (134, B (!(eqNode v_y46 (Node.mk v_y44.feature v_y44.cut v_y44.left v_y44.right v_y44.less v_t45))))] []
                      refine nx_nil ?_
                      refine Says.ex (S' := [(22, I (w64 (v_t43 + 1))), (4, I v_a5), (14, SL 6 cNode v_r8.1), (18, SL 6 cNode v_r23.1)]) (O' := []) (says_pick [0, 3, 4, 5] [] rfl rfl) ?_
                      refine ex_kx ?_
                      refine Says.kx (S' := [(4, I v_a5), (14, SL 6 cNode v_r8.1), (18, SL 6 cNode v_r23.1), (22, I (w64 (v_t43 + 1)))]) (O' := []) (says_pick [1, 2, 3, 0] [] rfl rfl) ?_
                      exact hK89 _ _ ⟨w64 (v_t43 + 1), h, rfl, rfl⟩
                  ·
                    refine cw_seq fun K98 hK98 => ?_
                    refine cw_region ?_
                    refine nx_o (op_fieldVar (.tmp 0 rfl) 0 rfl o32_0) rfl ?_
                    refine nx_o (op_loadV (.tmp 0 rfl) 0 rfl rfl a3) rfl ?_
                    refine nx_o (op_eql (.tmp 0 rfl) (Can.int _ _ _)) rfl ?_
                    refine nx_nil ?_
                    refine Says.ex (S' := [(123, B (v_y44.feature == (-1))), (23, .ref 110), (4, I v_a5), (14, SL 6 cNode v_r8.1), (18, SL 6 cNode v_r23.1), (22, I v_t43)]) (O' := [(110, .var 32 [I v_y44.feature, I v_y44.cut, I v_y44.left, I v_y44.right, B v_y44.less, I v_y44.value])]) (says_pick [0, 3, 4, 5, 6, 7] [0] rfl rfl) ?_
                    refine ex_kx (hK98 _ _ ?_)
                    refine cw_cond (b := (v_y44.feature == (-1))) (.tmp 0 rfl) (fun hc => ?_) (fun hc => ?_)
                    · have h := ite_t hc h
                      refine cw_region ?_
                      refine nx_o (op_fieldVar (.tmp 1 rfl) 0 rfl o32_5) rfl ?_
                      refine nx_o (op_loadV (.tmp 0 rfl) 0 rfl rfl a3) rfl ?_
                      refine nx_o (op_move (.tmp 4 rfl)) rfl ?_
                      refine nx_o (op_add (.tmp 1 rfl) (.tmp 0 rfl)) rfl ?_
                      refine nx_o (op_fieldVar (.tmp 5 rfl) 0 rfl o32_5) rfl ?_
                      refine nx_o0 (op_storeV (.tmp 0 rfl) 0 rfl (Nat.le_of_ble_eq_true rfl) (.tmp 1 rfl) one_c s3) ?_
                      show Nx _ _ _ _ _ [(128, .pt 110 5), (127, I (w64 (v_y44.value + v_a5))), (126, I v_a5), (125, I v_y44.value), (124, .pt 110 5), (123, B (v_y44.feature == (-1))), (23, .ref 110), (4, I v_a5), (14, SL 6 cNode v_r8.1), (18, SL 6 cNode v_r23.1), (22, I v_t43)] [(110, .var 32 [I v_y44.feature, I v_y44.cut, I v_y44.left, I v_y44.right, B v_y44.less, I (w64 (v_y44.value + v_a5))])]
                      refine nx_nil ?_
                      refine Says.ex (S' := [(23, .ref 110), (4, I v_a5), (14, SL 6 cNode v_r8.1), (18, SL 6 cNode v_r23.1), (22, I v_t43)]) (O' := [(110, .var 32 [I v_y44.feature, I v_y44.cut, I v_y44.left, I v_y44.right, B v_y44.less, I (w64 (v_y44.value + v_a5))])]) (says_pick [6, 7, 8, 9, 10] [0] rfl rfl) ?_
                      refine ex_kx ?_
                      refine Says.kx (S' := [(4, I v_a5), (14, SL 6 cNode v_r8.1), (18, SL 6 cNode v_r23.1), (22, I v_t43), (23, .ref 110)]) (O' := [(110, .var 32 [I v_y44.feature, I v_y44.cut, I v_y44.left, I v_y44.right, B v_y44.less, I (w64 (v_y44.value + v_a5))])]) (says_pick [1, 2, 3, 4, 0] [0] rfl rfl) ?_
                      exact hK95 _ _ ⟨w64 (v_y44.value + v_a5), h, rfl, rfl⟩
                    · have h := ite_f hc h
                      refine cw_skip ?_
                      refine ex_kx ?_
                      refine Says.kx (S' := [(4, I v_a5), (14, SL 6 cNode v_r8.1), (18, SL 6 cNode v_r23.1), (22, I v_t43), (23, .ref 110)]) (O' := [(110, .var 32 [I v_y44.feature, I v_y44.cut, I v_y44.left, I v_y44.right, B v_y44.less, I v_y44.value])]) (says_pick [2, 3, 4, 5, 1] [0] rfl rfl) ?_
                      exact hK95 _ _ ⟨v_y44.value, h, rfl, rfl⟩
                · have h := ite_f hc h
                  refine cw_exit ?_
                  refine ex_te ?_
                  refine ex_te ?_
                  refine ex_be ?_
                  refine ex_kx ?_
                  refine Says.kx (S' := []) (O' := []) (says_pick [] [] rfl rfl) ?_
                  exact hK66 _ _ ⟨h, rfl, rfl⟩
      ·
        refine cw_seq fun K99 hK99 => ?_
        refine cw_region ?_
        refine nx_o (op_assign (Can.int _ _ _)) rfl ?_
        refine nx_nil ?_
        refine ex_kx (hK99 _ _ ?_)
        refine cw_block ?_
        refine Says.cw (says_ownNil 16 112 25 2 cSample 1 rfl rfl rfl rfl) ?_
        show Cw _ _ _ _ [(17, I 0), (16, .ref 112), (14, SL 6 cNode v_r8.1), (0, SL 2 cSample v_a1), (1, I v_a2), (2, I v_a3), (3, I v_a4), (4, I v_a5)] [(112, .row 25 2 cSample [])]
        refine Says.cw (S' := [(0, SL 2 cSample v_a1), (1, I v_a2), (2, I v_a3), (3, I v_a4), (4, I v_a5), (14, SL 6 cNode v_r8.1), (16, .ref 112), (17, I 0)]) (O' := [(112, .row 25 2 cSample [])]) (says_pick [3, 4, 5, 6, 7, 2, 1, 0] [0] rfl rfl) ?_
        refine cw_loopJ (fun n S O => ∃ (v_t55 : List Sample) (v_t56 : Int), orchlaw4_GrowShifts_l2 N v_a1 v_a5 v_a2 v_a3 v_a4 v_r8 n v_t55 v_t56 = some r ∧ S = [(0, SL 2 cSample v_a1), (1, I v_a2), (2, I v_a3), (3, I v_a4), (4, I v_a5), (14, SL 6 cNode v_r8.1), (16, .ref 112), (17, I v_t56)] ∧ O = [(112, .row 25 2 cSample v_t55)]) ?_ ?_ N ⟨[], 0, h, rfl, rfl⟩
        · rintro S O ⟨v_t55, v_t56, h, -, -⟩
          simp [orchlaw4_GrowShifts_l2] at h
        · rintro n_2 S O ⟨v_t55, v_t56, h, rfl, rfl⟩ K106 hK106
          rw [orchlaw4_GrowShifts_l2] at h
          refine cw_seq fun K107 hK107 => ?_
          refine cw_seq fun K108 hK108 => ?_
          refine cw_region ?_
          refine nx_o (op_move (.tmp 7 rfl)) rfl ?_
          refine nx_o (op_move (.tmp 1 rfl)) rfl ?_
          refine nx_o (op_len (.tmp 0 rfl) u22) rfl ?_
          refine nx_o (op_lss (.tmp 2 rfl) (.tmp 0 rfl)) rfl ?_
          refine nx_nil ?_
          refine Says.ex (S' := [(69, B (decide (v_t56 < (v_a1.length : Int)))), (0, SL 2 cSample v_a1), (1, I v_a2), (2, I v_a3), (3, I v_a4), (4, I v_a5), (14, SL 6 cNode v_r8.1), (16, .ref 112), (17, I v_t56)]) (O' := [(112, .row 25 2 cSample v_t55)]) (says_pick [0, 4, 5, 6, 7, 8, 9, 10, 11] [0] rfl rfl) ?_
          refine ex_kx (hK108 _ _ ?_)
          refine cw_cond (b := (decide (v_t56 < (v_a1.length : Int)))) (.tmp 0 rfl) (fun hc => ?_) (fun hc => ?_)
          · have h := ite_t hc h
            refine cw_skip ?_
            refine ex_kx (hK107 _ _ ?_)
            refine cw_seq fun K109 hK109 => ?_
            refine cw_block ?_
            obtain ⟨v_y57, hv_y57, h⟩ := bnd h
            obtain ⟨v_y58, hv_y58, h⟩ := bnd h
            obtain ⟨v_t59, hv_t59, h⟩ := bnd h
            refine cw_draw (Plan.mk [0, 15, 16] [[], [], [], [1, 2], [1, 2, 3], [1, 2, 3, 4], [], [], [6, 7], [6, 7, 8], [6, 7, 8, 9], [], [6, 7, 8, 9, 10, 11], [1, 2, 3, 4, 5, 6, 7, 8, 9, 10, 11, 12], [1, 2, 3, 4, 5, 6, 7, 8, 9, 10, 11, 12, 13], [0, 1, 2, 3, 4, 5, 6, 7, 8, 9, 10, 11, 12, 13, 14], [0, 1, 2, 3, 4, 5, 6, 7, 8, 9, 10, 11, 12, 13, 14, 15]] [[(69, B (decide (v_t56 < (v_a1.length : Int)))), (0, SL 2 cSample v_a1), (1, I v_a2), (2, I v_a3), (3, I v_a4), (4, I v_a5), (14, SL 6 cNode v_r8.1), (16, .ref 112), (17, I v_t56)], [(72, .ref 112), (69, B (decide (v_t56 < (v_a1.length : Int)))), (0, SL 2 cSample v_a1), (1, I v_a2), (2, I v_a3), (3, I v_a4), (4, I v_a5), (14, SL 6 cNode v_r8.1), (16, .ref 112), (17, I v_t56)], [(87, .ref 114), (69, B (decide (v_t56 < (v_a1.length : Int)))), (0, SL 2 cSample v_a1), (1, I v_a2), (2, I v_a3), (3, I v_a4), (4, I v_a5), (14, SL 6 cNode v_r8.1), (17, I v_t56)], [(16, .ref 114), (87, .ref 114), (69, B (decide (v_t56 < (v_a1.length : Int)))), (0, SL 2 cSample v_a1), (1, I v_a2), (2, I v_a3), (3, I v_a4), (4, I v_a5), (14, SL 6 cNode v_r8.1), (17, I v_t56)]] [[(112, .row 25 2 cSample v_t55)], [(112, .row 25 2 cSample v_t55)], [(114, .row 25 2 cSample v_t59)], [(114, .row 25 2 cSample v_t59)]] [(0, .raw undef), (73, SL 2 cSample v_a1), (74, I v_t56), (75, .ptr (cSample v_y57)), (76, .ptr ((cSample v_y57).drop 0)), (77, SL 1 cI v_y57.row), (78, SL 2 cSample v_a1), (79, I v_t56), (80, .ptr (cSample v_y58)), (81, .ptr ((cSample v_y58).drop 1)), (82, I v_y58.target), (83, I v_a5), (84, I (w64 (v_y58.target + v_a5))), (85, .agg (cSample (Sample.mk v_y57.row (w64 (v_y58.target + v_a5))))), (86, SL 2 cSample [(Sample.mk v_y57.row (w64 (v_y58.target + v_a5)))]), (0, .raw undef), (0, .raw undef)]) mixed rfl rfl rfl rfl ?_ ?_ ?_
            · exact (And.intro (fun hn => (Bool.false_ne_true (hn.symm.trans rfl)).elim) (And.intro (fun _ => (And.intro (show OpY _ _ _ [(69, B (decide (v_t56 < (v_a1.length : Int)))), (0, SL 2 cSample v_a1), (1, I v_a2), (2, I v_a3), (3, I v_a4), (4, I v_a5), (14, SL 6 cNode v_r8.1), (16, .ref 112), (17, I v_t56)] [(112, .row 25 2 cSample v_t55)] _ (SL 2 cSample v_a1) [(112, .row 25 2 cSample v_t55)] allp from (OpX.y (op_move (.tmp 1 rfl)) rfl)) (And.intro (show OpY _ _ _ [(72, .ref 112), (69, B (decide (v_t56 < (v_a1.length : Int)))), (0, SL 2 cSample v_a1), (1, I v_a2), (2, I v_a3), (3, I v_a4), (4, I v_a5), (14, SL 6 cNode v_r8.1), (16, .ref 112), (17, I v_t56)] [(112, .row 25 2 cSample v_t55)] _ (SL 2 cSample v_a1) [(112, .row 25 2 cSample v_t55)] allp from (OpX.y (op_move (.tmp 2 rfl)) rfl)) trivial))) (And.intro (fun _ => (And.intro (show OpY _ _ _ [(69, B (decide (v_t56 < (v_a1.length : Int)))), (0, SL 2 cSample v_a1), (1, I v_a2), (2, I v_a3), (3, I v_a4), (4, I v_a5), (14, SL 6 cNode v_r8.1), (16, .ref 112), (17, I v_t56)] [(112, .row 25 2 cSample v_t55)] _ (I v_t56) [(112, .row 25 2 cSample v_t55)] allp from (OpX.y (op_move (.tmp 8 rfl)) rfl)) (And.intro (show OpY _ _ _ [(72, .ref 112), (69, B (decide (v_t56 < (v_a1.length : Int)))), (0, SL 2 cSample v_a1), (1, I v_a2), (2, I v_a3), (3, I v_a4), (4, I v_a5), (14, SL 6 cNode v_r8.1), (16, .ref 112), (17, I v_t56)] [(112, .row 25 2 cSample v_t55)] _ (I v_t56) [(112, .row 25 2 cSample v_t55)] allp from (OpX.y (op_move (.tmp 9 rfl)) rfl)) trivial))) (And.intro (fun _ => (And.intro (show OpY _ _ _ [(69, B (decide (v_t56 < (v_a1.length : Int)))), (0, SL 2 cSample v_a1), (1, I v_a2), (2, I v_a3), (3, I v_a4), (4, I v_a5), (14, SL 6 cNode v_r8.1), (16, .ref 112), (17, I v_t56), (73, SL 2 cSample v_a1), (74, I v_t56)] [(112, .row 25 2 cSample v_t55)] _ (.ptr (cSample v_y57)) [(112, .row 25 2 cSample v_t55)] allp from (OpX.y (op_indexX hv_y57 (.tmp 9 rfl) (.tmp 10 rfl) u22 s25) rfl)) (And.intro (show OpY _ _ _ [(72, .ref 112), (69, B (decide (v_t56 < (v_a1.length : Int)))), (0, SL 2 cSample v_a1), (1, I v_a2), (2, I v_a3), (3, I v_a4), (4, I v_a5), (14, SL 6 cNode v_r8.1), (16, .ref 112), (17, I v_t56), (73, SL 2 cSample v_a1), (74, I v_t56)] [(112, .row 25 2 cSample v_t55)] _ (.ptr (cSample v_y57)) [(112, .row 25 2 cSample v_t55)] allp from (OpX.y (op_indexX hv_y57 (.tmp 10 rfl) (.tmp 11 rfl) u22 s25) rfl)) trivial))) (And.intro (fun _ => (And.intro (show OpY _ _ _ [(69, B (decide (v_t56 < (v_a1.length : Int)))), (0, SL 2 cSample v_a1), (1, I v_a2), (2, I v_a3), (3, I v_a4), (4, I v_a5), (14, SL 6 cNode v_r8.1), (16, .ref 112), (17, I v_t56), (73, SL 2 cSample v_a1), (74, I v_t56), (75, .ptr (cSample v_y57))] [(112, .row 25 2 cSample v_t55)] _ (.ptr ((cSample v_y57).drop 0)) [(112, .row 25 2 cSample v_t55)] allp from (OpX.y (op_field (.tmp 11 rfl) o25_0) rfl)) (And.intro (show OpY _ _ _ [(72, .ref 112), (69, B (decide (v_t56 < (v_a1.length : Int)))), (0, SL 2 cSample v_a1), (1, I v_a2), (2, I v_a3), (3, I v_a4), (4, I v_a5), (14, SL 6 cNode v_r8.1), (16, .ref 112), (17, I v_t56), (73, SL 2 cSample v_a1), (74, I v_t56), (75, .ptr (cSample v_y57))] [(112, .row 25 2 cSample v_t55)] _ (.ptr ((cSample v_y57).drop 0)) [(112, .row 25 2 cSample v_t55)] allp from (OpX.y (op_field (.tmp 12 rfl) o25_0) rfl)) trivial))) (And.intro (fun _ => (And.intro (show OpY _ _ _ [(69, B (decide (v_t56 < (v_a1.length : Int)))), (0, SL 2 cSample v_a1), (1, I v_a2), (2, I v_a3), (3, I v_a4), (4, I v_a5), (14, SL 6 cNode v_r8.1), (16, .ref 112), (17, I v_t56), (73, SL 2 cSample v_a1), (74, I v_t56), (75, .ptr (cSample v_y57)), (76, .ptr ((cSample v_y57).drop 0))] [(112, .row 25 2 cSample v_t55)] _ (SL 1 cI v_y57.row) [(112, .row 25 2 cSample v_t55)] allp from (OpX.y (op_load1 (.tmp 12 rfl) a23) rfl)) (And.intro (show OpY _ _ _ [(72, .ref 112), (69, B (decide (v_t56 < (v_a1.length : Int)))), (0, SL 2 cSample v_a1), (1, I v_a2), (2, I v_a3), (3, I v_a4), (4, I v_a5), (14, SL 6 cNode v_r8.1), (16, .ref 112), (17, I v_t56), (73, SL 2 cSample v_a1), (74, I v_t56), (75, .ptr (cSample v_y57)), (76, .ptr ((cSample v_y57).drop 0))] [(112, .row 25 2 cSample v_t55)] _ (SL 1 cI v_y57.row) [(112, .row 25 2 cSample v_t55)] allp from (OpX.y (op_load1 (.tmp 13 rfl) a23) rfl)) trivial))) (And.intro (fun _ => (And.intro (show OpY _ _ _ [(69, B (decide (v_t56 < (v_a1.length : Int)))), (0, SL 2 cSample v_a1), (1, I v_a2), (2, I v_a3), (3, I v_a4), (4, I v_a5), (14, SL 6 cNode v_r8.1), (16, .ref 112), (17, I v_t56)] [(112, .row 25 2 cSample v_t55)] _ (SL 2 cSample v_a1) [(112, .row 25 2 cSample v_t55)] allp from (OpX.y (op_move (.tmp 1 rfl)) rfl)) (And.intro (show OpY _ _ _ [(72, .ref 112), (69, B (decide (v_t56 < (v_a1.length : Int)))), (0, SL 2 cSample v_a1), (1, I v_a2), (2, I v_a3), (3, I v_a4), (4, I v_a5), (14, SL 6 cNode v_r8.1), (16, .ref 112), (17, I v_t56)] [(112, .row 25 2 cSample v_t55)] _ (SL 2 cSample v_a1) [(112, .row 25 2 cSample v_t55)] allp from (OpX.y (op_move (.tmp 2 rfl)) rfl)) trivial))) (And.intro (fun _ => (And.intro (show OpY _ _ _ [(69, B (decide (v_t56 < (v_a1.length : Int)))), (0, SL 2 cSample v_a1), (1, I v_a2), (2, I v_a3), (3, I v_a4), (4, I v_a5), (14, SL 6 cNode v_r8.1), (16, .ref 112), (17, I v_t56)] [(112, .row 25 2 cSample v_t55)] _ (I v_t56) [(112, .row 25 2 cSample v_t55)] allp from (OpX.y (op_move (.tmp 8 rfl)) rfl)) (And.intro (show OpY _ _ _ [(72, .ref 112), (69, B (decide (v_t56 < (v_a1.length : Int)))), (0, SL 2 cSample v_a1), (1, I v_a2), (2, I v_a3), (3, I v_a4), (4, I v_a5), (14, SL 6 cNode v_r8.1), (16, .ref 112), (17, I v_t56)] [(112, .row 25 2 cSample v_t55)] _ (I v_t56) [(112, .row 25 2 cSample v_t55)] allp from (OpX.y (op_move (.tmp 9 rfl)) rfl)) trivial))) (And.intro (fun _ => (And.intro (show OpY _ _ _ [(69, B (decide (v_t56 < (v_a1.length : Int)))), (0, SL 2 cSample v_a1), (1, I v_a2), (2, I v_a3), (3, I v_a4), (4, I v_a5), (14, SL 6 cNode v_r8.1), (16, .ref 112), (17, I v_t56), (78, SL 2 cSample v_a1), (79, I v_t56)] [(112, .row 25 2 cSample v_t55)] _ (.ptr (cSample v_y58)) [(112, .row 25 2 cSample v_t55)] allp from (OpX.y (op_indexX hv_y58 (.tmp 9 rfl) (.tmp 10 rfl) u22 s25) rfl)) (And.intro (show OpY _ _ _ [(72, .ref 112), (69, B (decide (v_t56 < (v_a1.length : Int)))), (0, SL 2 cSample v_a1), (1, I v_a2), (2, I v_a3), (3, I v_a4), (4, I v_a5), (14, SL 6 cNode v_r8.1), (16, .ref 112), (17, I v_t56), (78, SL 2 cSample v_a1), (79, I v_t56)] [(112, .row 25 2 cSample v_t55)] _ (.ptr (cSample v_y58)) [(112, .row 25 2 cSample v_t55)] allp from (OpX.y (op_indexX hv_y58 (.tmp 10 rfl) (.tmp 11 rfl) u22 s25) rfl)) trivial))) (And.intro (fun _ => (And.intro (show OpY _ _ _ [(69, B (decide (v_t56 < (v_a1.length : Int)))), (0, SL 2 cSample v_a1), (1, I v_a2), (2, I v_a3), (3, I v_a4), (4, I v_a5), (14, SL 6 cNode v_r8.1), (16, .ref 112), (17, I v_t56), (78, SL 2 cSample v_a1), (79, I v_t56), (80, .ptr (cSample v_y58))] [(112, .row 25 2 cSample v_t55)] _ (.ptr ((cSample v_y58).drop 1)) [(112, .row 25 2 cSample v_t55)] allp from (OpX.y (op_field (.tmp 11 rfl) o25_1) rfl)) (And.intro (show OpY _ _ _ [(72, .ref 112), (69, B (decide (v_t56 < (v_a1.length : Int)))), (0, SL 2 cSample v_a1), (1, I v_a2), (2, I v_a3), (3, I v_a4), (4, I v_a5), (14, SL 6 cNode v_r8.1), (16, .ref 112), (17, I v_t56), (78, SL 2 cSample v_a1), (79, I v_t56), (80, .ptr (cSample v_y58))] [(112, .row 25 2 cSample v_t55)] _ (.ptr ((cSample v_y58).drop 1)) [(112, .row 25 2 cSample v_t55)] allp from (OpX.y (op_field (.tmp 12 rfl) o25_1) rfl)) trivial))) (And.intro (fun _ => (And.intro (show OpY _ _ _ [(69, B (decide (v_t56 < (v_a1.length : Int)))), (0, SL 2 cSample v_a1), (1, I v_a2), (2, I v_a3), (3, I v_a4), (4, I v_a5), (14, SL 6 cNode v_r8.1), (16, .ref 112), (17, I v_t56), (78, SL 2 cSample v_a1), (79, I v_t56), (80, .ptr (cSample v_y58)), (81, .ptr ((cSample v_y58).drop 1))] [(112, .row 25 2 cSample v_t55)] _ (I v_y58.target) [(112, .row 25 2 cSample v_t55)] allp from (OpX.y (op_load1 (.tmp 12 rfl) a3) rfl)) (And.intro (show OpY _ _ _ [(72, .ref 112), (69, B (decide (v_t56 < (v_a1.length : Int)))), (0, SL 2 cSample v_a1), (1, I v_a2), (2, I v_a3), (3, I v_a4), (4, I v_a5), (14, SL 6 cNode v_r8.1), (16, .ref 112), (17, I v_t56), (78, SL 2 cSample v_a1), (79, I v_t56), (80, .ptr (cSample v_y58)), (81, .ptr ((cSample v_y58).drop 1))] [(112, .row 25 2 cSample v_t55)] _ (I v_y58.target) [(112, .row 25 2 cSample v_t55)] allp from (OpX.y (op_load1 (.tmp 13 rfl) a3) rfl)) trivial))) (And.intro (fun _ => (And.intro (show OpY _ _ _ [(69, B (decide (v_t56 < (v_a1.length : Int)))), (0, SL 2 cSample v_a1), (1, I v_a2), (2, I v_a3), (3, I v_a4), (4, I v_a5), (14, SL 6 cNode v_r8.1), (16, .ref 112), (17, I v_t56)] [(112, .row 25 2 cSample v_t55)] _ (I v_a5) [(112, .row 25 2 cSample v_t55)] allp from (OpX.y (op_move (.tmp 5 rfl)) rfl)) (And.intro (show OpY _ _ _ [(72, .ref 112), (69, B (decide (v_t56 < (v_a1.length : Int)))), (0, SL 2 cSample v_a1), (1, I v_a2), (2, I v_a3), (3, I v_a4), (4, I v_a5), (14, SL 6 cNode v_r8.1), (16, .ref 112), (17, I v_t56)] [(112, .row 25 2 cSample v_t55)] _ (I v_a5) [(112, .row 25 2 cSample v_t55)] allp from (OpX.y (op_move (.tmp 6 rfl)) rfl)) trivial))) (And.intro (fun _ => (And.intro (show OpY _ _ _ [(69, B (decide (v_t56 < (v_a1.length : Int)))), (0, SL 2 cSample v_a1), (1, I v_a2), (2, I v_a3), (3, I v_a4), (4, I v_a5), (14, SL 6 cNode v_r8.1), (16, .ref 112), (17, I v_t56), (78, SL 2 cSample v_a1), (79, I v_t56), (80, .ptr (cSample v_y58)), (81, .ptr ((cSample v_y58).drop 1)), (82, I v_y58.target), (83, I v_a5)] [(112, .row 25 2 cSample v_t55)] _ (I (w64 (v_y58.target + v_a5))) [(112, .row 25 2 cSample v_t55)] allp from (OpX.y (op_add (.tmp 13 rfl) (.tmp 14 rfl)) rfl)) (And.intro (show OpY _ _ _ [(72, .ref 112), (69, B (decide (v_t56 < (v_a1.length : Int)))), (0, SL 2 cSample v_a1), (1, I v_a2), (2, I v_a3), (3, I v_a4), (4, I v_a5), (14, SL 6 cNode v_r8.1), (16, .ref 112), (17, I v_t56), (78, SL 2 cSample v_a1), (79, I v_t56), (80, .ptr (cSample v_y58)), (81, .ptr ((cSample v_y58).drop 1)), (82, I v_y58.target), (83, I v_a5)] [(112, .row 25 2 cSample v_t55)] _ (I (w64 (v_y58.target + v_a5))) [(112, .row 25 2 cSample v_t55)] allp from (OpX.y (op_add (.tmp 14 rfl) (.tmp 15 rfl)) rfl)) trivial))) (And.intro (fun _ => (And.intro (show OpY _ _ _ [(69, B (decide (v_t56 < (v_a1.length : Int)))), (0, SL 2 cSample v_a1), (1, I v_a2), (2, I v_a3), (3, I v_a4), (4, I v_a5), (14, SL 6 cNode v_r8.1), (16, .ref 112), (17, I v_t56), (73, SL 2 cSample v_a1), (74, I v_t56), (75, .ptr (cSample v_y57)), (76, .ptr ((cSample v_y57).drop 0)), (77, SL 1 cI v_y57.row), (78, SL 2 cSample v_a1), (79, I v_t56), (80, .ptr (cSample v_y58)), (81, .ptr ((cSample v_y58).drop 1)), (82, I v_y58.target), (83, I v_a5), (84, I (w64 (v_y58.target + v_a5)))] [(112, .row 25 2 cSample v_t55)] _ (.agg (cSample (Sample.mk v_y57.row (w64 (v_y58.target + v_a5))))) [(112, .row 25 2 cSample v_t55)] allp from (OpX.y (op_build (l := (cSample (Sample.mk v_y57.row (w64 (v_y58.target + v_a5))))) (cSample (Sample.mk [] 0)) bs25 zSample (.cons (.c (.tmp 13 rfl)) rfl (Nat.le_of_ble_eq_true rfl) (.cons (.c (.tmp 20 rfl)) rfl (Nat.le_of_ble_eq_true rfl) .nil)) rfl) rfl)) (And.intro (show OpY _ _ _ [(72, .ref 112), (69, B (decide (v_t56 < (v_a1.length : Int)))), (0, SL 2 cSample v_a1), (1, I v_a2), (2, I v_a3), (3, I v_a4), (4, I v_a5), (14, SL 6 cNode v_r8.1), (16, .ref 112), (17, I v_t56), (73, SL 2 cSample v_a1), (74, I v_t56), (75, .ptr (cSample v_y57)), (76, .ptr ((cSample v_y57).drop 0)), (77, SL 1 cI v_y57.row), (78, SL 2 cSample v_a1), (79, I v_t56), (80, .ptr (cSample v_y58)), (81, .ptr ((cSample v_y58).drop 1)), (82, I v_y58.target), (83, I v_a5), (84, I (w64 (v_y58.target + v_a5)))] [(112, .row 25 2 cSample v_t55)] _ (.agg (cSample (Sample.mk v_y57.row (w64 (v_y58.target + v_a5))))) [(112, .row 25 2 cSample v_t55)] allp from (OpX.y (op_build (l := (cSample (Sample.mk v_y57.row (w64 (v_y58.target + v_a5))))) (cSample (Sample.mk [] 0)) bs25 zSample (.cons (.c (.tmp 14 rfl)) rfl (Nat.le_of_ble_eq_true rfl) (.cons (.c (.tmp 21 rfl)) rfl (Nat.le_of_ble_eq_true rfl) .nil)) rfl) rfl)) trivial))) (And.intro (fun _ => (And.intro (show OpY _ _ _ [(69, B (decide (v_t56 < (v_a1.length : Int)))), (0, SL 2 cSample v_a1), (1, I v_a2), (2, I v_a3), (3, I v_a4), (4, I v_a5), (14, SL 6 cNode v_r8.1), (16, .ref 112), (17, I v_t56), (73, SL 2 cSample v_a1), (74, I v_t56), (75, .ptr (cSample v_y57)), (76, .ptr ((cSample v_y57).drop 0)), (77, SL 1 cI v_y57.row), (78, SL 2 cSample v_a1), (79, I v_t56), (80, .ptr (cSample v_y58)), (81, .ptr ((cSample v_y58).drop 1)), (82, I v_y58.target), (83, I v_a5), (84, I (w64 (v_y58.target + v_a5))), (85, .agg (cSample (Sample.mk v_y57.row (w64 (v_y58.target + v_a5)))))] [(112, .row 25 2 cSample v_t55)] _ (SL 2 cSample [(Sample.mk v_y57.row (w64 (v_y58.target + v_a5)))]) [(112, .row 25 2 cSample v_t55)] allp from (OpX.y (op_buildSlice (cSample (Sample.mk [] 0)) (n := 2) (c := cSample) ([(Sample.mk v_y57.row (w64 (v_y58.target + v_a5)))] : List Sample) bl22 zSample (by decide) (by decide) (.cons (.agg (.tmp 21 rfl)) rfl (Nat.le_of_ble_eq_true rfl) .nil) rfl rfl (fun _ => rfl)) rfl)) (And.intro (show OpY _ _ _ [(72, .ref 112), (69, B (decide (v_t56 < (v_a1.length : Int)))), (0, SL 2 cSample v_a1), (1, I v_a2), (2, I v_a3), (3, I v_a4), (4, I v_a5), (14, SL 6 cNode v_r8.1), (16, .ref 112), (17, I v_t56), (73, SL 2 cSample v_a1), (74, I v_t56), (75, .ptr (cSample v_y57)), (76, .ptr ((cSample v_y57).drop 0)), (77, SL 1 cI v_y57.row), (78, SL 2 cSample v_a1), (79, I v_t56), (80, .ptr (cSample v_y58)), (81, .ptr ((cSample v_y58).drop 1)), (82, I v_y58.target), (83, I v_a5), (84, I (w64 (v_y58.target + v_a5))), (85, .agg (cSample (Sample.mk v_y57.row (w64 (v_y58.target + v_a5)))))] [(112, .row 25 2 cSample v_t55)] _ (SL 2 cSample [(Sample.mk v_y57.row (w64 (v_y58.target + v_a5)))]) [(112, .row 25 2 cSample v_t55)] allp from (OpX.y (op_buildSlice (cSample (Sample.mk [] 0)) (n := 2) (c := cSample) ([(Sample.mk v_y57.row (w64 (v_y58.target + v_a5)))] : List Sample) bl22 zSample (by decide) (by decide) (.cons (.agg (.tmp 22 rfl)) rfl (Nat.le_of_ble_eq_true rfl) .nil) rfl rfl (fun _ => rfl)) rfl)) trivial))) (And.intro (fun hn => (Bool.false_ne_true (hn.symm.trans rfl)).elim) (And.intro (fun hn => (Bool.false_ne_true (hn.symm.trans rfl)).elim) trivial)))))))))))))))))
            · exact (And.intro (fun o ho => by obtain rfl := Option.some.inj ho; exact ⟨⟨_, (.ref 112), [0, 1, 2, 3, 4, 5, 6, 7, 8], (OpY.to (show OpY _ _ _ [(69, B (decide (v_t56 < (v_a1.length : Int)))), (0, SL 2 cSample v_a1), (1, I v_a2), (2, I v_a3), (3, I v_a4), (4, I v_a5), (14, SL 6 cNode v_r8.1), (16, .ref 112), (17, I v_t56)] [(112, .row 25 2 cSample v_t55)] _ (.ref 112) _ _ from (OpX.y (op_move (.tmp 7 rfl)) rfl)) rfl), rfl, rfl⟩⟩) (And.intro (fun o ho => by obtain rfl := Option.some.inj ho; exact ⟨⟨_, (.ref 114), [1, 2, 3, 4, 5, 6, 7, 9], (OpY.to (show OpY _ _ _ [(72, .ref 112), (69, B (decide (v_t56 < (v_a1.length : Int)))), (0, SL 2 cSample v_a1), (1, I v_a2), (2, I v_a3), (3, I v_a4), (4, I v_a5), (14, SL 6 cNode v_r8.1), (16, .ref 112), (17, I v_t56), (73, SL 2 cSample v_a1), (74, I v_t56), (75, .ptr (cSample v_y57)), (76, .ptr ((cSample v_y57).drop 0)), (77, SL 1 cI v_y57.row), (78, SL 2 cSample v_a1), (79, I v_t56), (80, .ptr (cSample v_y58)), (81, .ptr ((cSample v_y58).drop 1)), (82, I v_y58.target), (83, I v_a5), (84, I (w64 (v_y58.target + v_a5))), (85, .agg (cSample (Sample.mk v_y57.row (w64 (v_y58.target + v_a5))))), (86, SL 2 cSample [(Sample.mk v_y57.row (w64 (v_y58.target + v_a5)))])] [(112, .row 25 2 cSample v_t55)] _ (.ref 114) _ _ from (OpX.y (op_appendX hv_t59 114 (.tmp 0 rfl) 0 rfl (.tmp 23 rfl) u22 i25 (by decide) (by decide) (fun _ => rfl) rfl rfl) rfl)) rfl), rfl, rfl⟩⟩) (And.intro (fun o ho => by obtain rfl := Option.some.inj ho; exact ⟨⟨_, (.ref 114), [0, 1, 2, 3, 4, 5, 6, 7, 8], (OpY.to (show OpY _ _ _ [(87, .ref 114), (69, B (decide (v_t56 < (v_a1.length : Int)))), (0, SL 2 cSample v_a1), (1, I v_a2), (2, I v_a3), (3, I v_a4), (4, I v_a5), (14, SL 6 cNode v_r8.1), (17, I v_t56), (73, SL 2 cSample v_a1), (74, I v_t56), (75, .ptr (cSample v_y57)), (76, .ptr ((cSample v_y57).drop 0)), (77, SL 1 cI v_y57.row), (78, SL 2 cSample v_a1), (79, I v_t56), (80, .ptr (cSample v_y58)), (81, .ptr ((cSample v_y58).drop 1)), (82, I v_y58.target), (83, I v_a5), (84, I (w64 (v_y58.target + v_a5))), (85, .agg (cSample (Sample.mk v_y57.row (w64 (v_y58.target + v_a5))))), (86, SL 2 cSample [(Sample.mk v_y57.row (w64 (v_y58.target + v_a5)))])] [(114, .row 25 2 cSample v_t59)] _ (.ref 114) _ _ from (OpX.y (op_assign (.tmp 0 rfl)) rfl)) rfl), rfl, rfl⟩⟩) trivial)))
            show Ex _ _ _ [(16, .ref 114), (87, .ref 114), (69, B (decide (v_t56 < (v_a1.length : Int)))), (0, SL 2 cSample v_a1), (1, I v_a2), (2, I v_a3), (3, I v_a4), (4, I v_a5), (14, SL 6 cNode v_r8.1), (17, I v_t56), (73, SL 2 cSample v_a1), (74, I v_t56), (75, .ptr (cSample v_y57)), (76, .ptr ((cSample v_y57).drop 0)), (77, SL 1 cI v_y57.row), (78, SL 2 cSample v_a1), (79, I v_t56), (80, .ptr (cSample v_y58)), (81, .ptr ((cSample v_y58).drop 1)), (82, I v_y58.target), (83, I v_a5), (84, I (w64 (v_y58.target + v_a5))), (85, .agg (cSample (Sample.mk v_y57.row (w64 (v_y58.target + v_a5))))), (86, SL 2 cSample [(Sample.mk v_y57.row (w64 (v_y58.target + v_a5)))])] [(114, .row 25 2 cSample v_t59)]
            refine Says.ex (S' := [(16, .ref 114), (0, SL 2 cSample v_a1), (1, I v_a2), (2, I v_a3), (3, I v_a4), (4, I v_a5), (14, SL 6 cNode v_r8.1), (17, I v_t56)]) (O' := [(114, .row 25 2 cSample v_t59)]) (says_pick [0, 3, 4, 5, 6, 7, 8, 9] [0] rfl rfl) ?_
            refine ex_bn ?_
            refine ex_kx (hK109 _ _ ?_)
            refine cw_region ?_
            refine nx_o (op_move (.tmp 7 rfl)) rfl ?_
            refine nx_o (op_add (.tmp 0 rfl) (Can.int _ _ _)) rfl ?_
            refine nx_k [0, 1, 2, 3, 4, 5, 6, 7, 8] (op_assign (.tmp 0 rfl)) rfl rfl ?_
            show Nx _ _ _ _ _ [(17, I (w64 (v_t56 + 1))), (71, I (w64 (v_t56 + 1))), (70, I v_t56), (16, .ref 114), (0, SL 2 cSample v_a1), (1, I v_a2), (2, I v_a3), (3, I v_a4), (4, I v_a5), (14, SL 6 cNode v_r8.1)] [(114, .row 25 2 cSample v_t59)]
            refine nx_nil ?_
            refine Says.ex (S' := [(17, I (w64 (v_t56 + 1))), (16, .ref 114), (0, SL 2 cSample v_a1), (1, I v_a2), (2, I v_a3), (3, I v_a4), (4, I v_a5), (14, SL 6 cNode v_r8.1)]) (O' := [(114, .row 25 2 cSample v_t59)]) (says_pick [0, 3, 4, 5, 6, 7, 8, 9] [0] rfl rfl) ?_
            refine ex_kx ?_
            refine Says.kx (S' := [(0, SL 2 cSample v_a1), (1, I v_a2), (2, I v_a3), (3, I v_a4), (4, I v_a5), (14, SL 6 cNode v_r8.1), (16, .ref 114), (17, I (w64 (v_t56 + 1)))]) (O' := [(114, .row 25 2 cSample v_t59)]) (says_pick [2, 3, 4, 5, 6, 7, 1, 0] [0] rfl rfl) ?_
            refine Says.kx (says_swap 114 112 rfl rfl rfl rfl) ?_
            exact hK106 _ _ ⟨v_t59, w64 (v_t56 + 1), h, rfl, rfl⟩
          · have h := ite_f hc h
            refine cw_exit ?_
            refine ex_te ?_
            refine ex_te ?_
            refine ex_be ?_
            refine ex_kx ?_
            refine Says.kx (S' := [(1, I v_a2), (2, I v_a3), (3, I v_a4), (4, I v_a5), (14, SL 6 cNode v_r8.1), (16, .ref 112)]) (O' := [(112, .row 25 2 cSample v_t55)]) (says_pick [2, 3, 4, 5, 6, 7] [0] rfl rfl) ?_
            refine Says.kx (says_swap 112 102 rfl rfl rfl rfl) ?_
            exact hK24 _ _ ⟨v_t55, h, rfl, rfl⟩

theorem f104_fn (N : Nat) (v_k1 : Int) (v_a2 : Int) (v_a3 : List Node) (r : Bool) (h : tree_node_1 N v_k1 v_a2 v_a3 = some r) : Fn Go.Proofs.Try.prog 104 [I v_k1, .ptr (cI v_a2), .ptr (cLNode v_a3)] [] (B r) [] := by
  unfold tree_node_1 at h
  refine fn_intro [] fun104 rfl rfl (Nat.le_of_ble_eq_true rfl) rfl rfl (fun w G V => ?_)
  show Cw _ _ _ _ [(0, I v_k1), (1, .ptr (cI v_a2)), (2, .ptr (cLNode v_a3))] []
  refine cw_seq fun K1 hK1 => ?_
  refine cw_region ?_
  refine nx_o (op_assign (Can.bool _ _)) rfl ?_
  refine nx_nil ?_
  refine Says.ex (S' := [(0, I v_k1), (1, .ptr (cI v_a2)), (2, .ptr (cLNode v_a3))]) (O' := []) (says_pick [1, 2, 3] [] rfl rfl) ?_
  refine ex_kx (hK1 _ _ ?_)
  refine cw_seq fun K2 hK2 => ?_
  refine cw_region ?_
  refine nx_o (op_move (.tmp 0 rfl)) rfl ?_
  refine nx_o (op_load1 (.tmp 2 rfl) a3) rfl ?_
  refine nx_o (op_gtr (.tmp 1 rfl) (.tmp 0 rfl)) rfl ?_
  refine nx_o (op_move (.tmp 0 rfl)) rfl ?_
  refine nx_g (opy_guard (cc := (decide (v_k1 > v_a2))) (.plain 0 rfl) rfl rfl (fun hg => (op_move (.tmp 4 rfl)))) rfl ?_
  refine nx_g (opy_guard (cc := (decide (v_k1 > v_a2))) (.plain 1 rfl) rfl rfl (fun hg => (op_load1 (.tmp 7 rfl) a26))) rfl ?_
  refine nx_g (opy_guard (cc := (decide (v_k1 > v_a2))) (.plain 2 rfl) rfl rfl (fun hg => (op_len (.cd 0 rfl hg) u26))) rfl ?_
  refine nx_g (opy_guard (cc := (decide (v_k1 > v_a2))) (.plain 3 rfl) rfl rfl (fun hg => (op_lss (.cd 2 rfl hg) (.cd 0 rfl hg)))) rfl ?_
  refine nx_o (op_and (.tmp 4 rfl) (fun hp => (.cd 0 rfl hp))) rfl ?_
  refine nx_o (op_assign (.tmp 0 rfl)) rfl ?_
  refine nx_nil ?_
  refine Says.ex (S' := [(4, B ((decide (v_k1 > v_a2)) && (decide (v_k1 < (v_a3.length : Int)))))]) (O' := []) (says_pick [0] [] rfl rfl) ?_
  refine ex_kx (hK2 _ _ ?_)
  refine cw_ret ?_
  cases h
  exact ex_done (.inl rfl) rfl (fun a w G V hs _ hS => res1 rfl (.tmp 0 rfl) a w G V hS)

theorem f58_fn (N : Nat) (v_a1 : List Node) (v_a2 : Int) (v_a3 : Int) (r : Option Int) (h : tree_node N v_a1 v_a2 v_a3 = some r) : Fn Go.Proofs.Try.prog 58 [SL 6 cNode v_a1, I v_a2, I v_a3] [] (Er TE r) [] := by
  unfold tree_node at h
  refine fn_intro [] fun58 rfl rfl (Nat.le_of_ble_eq_true rfl) rfl rfl (fun w G V => ?_)
  show Cw _ _ _ _ [(0, SL 6 cNode v_a1), (1, I v_a2), (2, I v_a3)] []
  refine cw_seq fun K1 hK1 => ?_
  refine cw_region ?_
  refine nx_o (op_box (its := (cLNode v_a1)) (.c (.tmp 0 rfl))) rfl ?_
  refine nx_o (op_box (its := (cI v_a2)) (.c (.tmp 2 rfl))) rfl ?_
  refine nx_o (op_assign (Can.nilE _ TE)) rfl ?_
  refine nx_nil ?_
  refine Says.ex (S' := [(4, .ptr (cI v_a2)), (3, .ptr (cLNode v_a1)), (2, I v_a3)]) (O' := []) (says_pick [1, 2, 5] [] rfl rfl) ?_
  refine ex_kx (hK1 _ _ ?_)
  refine cw_seq fun K2 hK2 => ?_
  refine cw_region ?_
  refine nx_o (op_load1 (.tmp 1 rfl) a26) rfl ?_
  refine nx_o (op_load1 (.tmp 1 rfl) a3) rfl ?_
  obtain ⟨v_y4, hv_y4, h⟩ := bnd h
  refine nx_o (op_indexX hv_y4 (.tmp 1 rfl) (.tmp 0 rfl) u26 s32) rfl ?_
  refine nx_o (op_loadA (cNode v_y4) (.tmp 0 rfl) a32 s32 rfl) rfl ?_
  refine nx_op (op_alloc 101 (cNode (Node.mk 0 0 0 0 false 0)) za32 zNode rfl) rfl ?_
  show Nx _ _ _ _ _ [(7, .ref 101), (12, .agg (cNode v_y4)), (11, .ptr (cNode v_y4)), (10, I v_a2), (9, SL 6 cNode v_a1), (4, .ptr (cI v_a2)), (3, .ptr (cLNode v_a1)), (2, I v_a3)] [(101, .var 32 [I 0, I 0, I 0, I 0, B false, I 0])]
  refine nx_o0 (op_storeVA (its := (cNode v_y4)) (.tmp 0 rfl) 0 rfl (.agg (.tmp 1 rfl)) rfl s32) ?_
  show Nx _ _ _ _ _ [(7, .ref 101), (12, .agg (cNode v_y4)), (11, .ptr (cNode v_y4)), (10, I v_a2), (9, SL 6 cNode v_a1), (4, .ptr (cI v_a2)), (3, .ptr (cLNode v_a1)), (2, I v_a3)] [(101, .var 32 [I v_y4.feature, I v_y4.cut, I v_y4.left, I v_y4.right, B v_y4.less, I v_y4.value])]
  refine nx_nil ?_
  refine Says.ex (S' := [(7, .ref 101), (4, .ptr (cI v_a2)), (3, .ptr (cLNode v_a1)), (2, I v_a3)]) (O' := [(101, .var 32 [I v_y4.feature, I v_y4.cut, I v_y4.left, I v_y4.right, B v_y4.less, I v_y4.value])]) (says_pick [0, 5, 6, 7] [0] rfl rfl) ?_
  refine ex_kx (hK2 _ _ ?_)
  refine cw_seq fun K3 hK3 => ?_
  refine cw_seq fun K4 hK4 => ?_
  refine cw_region ?_
  refine nx_o (op_fieldVar (.tmp 0 rfl) 0 rfl o32_0) rfl ?_
  refine nx_o (op_loadV (.tmp 0 rfl) 0 rfl rfl a3) rfl ?_
  refine nx_o (op_eql (.tmp 0 rfl) (Can.int _ _ _)) rfl ?_
  refine nx_nil ?_
  refine Says.ex (S' := [(15, B (v_y4.feature == (-1))), (7, .ref 101), (4, .ptr (cI v_a2)), (3, .ptr (cLNode v_a1)), (2, I v_a3)]) (O' := [(101, .var 32 [I v_y4.feature, I v_y4.cut, I v_y4.left, I v_y4.right, B v_y4.less, I v_y4.value])]) (says_pick [0, 3, 4, 5, 6] [0] rfl rfl) ?_
  refine ex_kx (hK4 _ _ ?_)
  refine cw_cond (b := (v_y4.feature == (-1))) (.tmp 0 rfl) (fun hc => ?_) (fun hc => ?_)
  · have h := ite_t hc h
    refine cw_seq fun K5 hK5 => ?_
    refine cw_block ?_
    refine cw_seq fun K6 hK6 => ?_
    refine cw_region ?_
    refine nx_o (op_fieldVar (.tmp 1 rfl) 0 rfl o32_5) rfl ?_
    refine nx_o (op_loadV (.tmp 0 rfl) 0 rfl rfl a3) rfl ?_
    obtain ⟨v_r5, hv_r5, h⟩ := bnd h
    refine nx_o (op_call0 (show Fn Go.Proofs.Try.prog 85 [I v_y4.value] [] (B v_r5) [] from (f85_fn N v_y4.value _ hv_r5)) c85 (.cons (.tmp 0 rfl) .nil)) rfl ?_
    refine nx_o (op_not (.tmp 0 rfl)) rfl ?_
    refine nx_o (op_assign (.tmp 0 rfl)) rfl ?_
    refine nx_nil ?_
    refine Says.ex (S' := [(16, B (!v_r5)), (7, .ref 101)]) (O' := [(101, .var 32 [I v_y4.feature, I v_y4.cut, I v_y4.left, I v_y4.right, B v_y4.less, I v_y4.value])]) (says_pick [0, 6] [0] rfl rfl) ?_
    refine ex_kx (hK6 _ _ ?_)
    refine cw_cond (b := (!v_r5)) (.tmp 0 rfl) (fun hc => ?_) (fun hc => ?_)
    · have h := ite_t hc h
      refine cw_seq fun K7 hK7 => ?_
      refine cw_region ?_
      refine nx_o (op_mkErr (Can.int _ _ _) u95 (fun _ h => by cases h)) rfl ?_
      refine nx_o (op_assign (.tmp 0 rfl)) rfl ?_
      refine nx_nil ?_
      refine Says.ex (S' := [(6, Er TE (some 1))]) (O' := []) (says_pick [0] [] rfl rfl) ?_
      refine ex_kx (hK7 _ _ ?_)
      refine cw_ret ?_
      refine ex_br ?_
      refine ex_tr ?_
      refine ex_tr ?_
      cases h
      exact ex_done (.inl rfl) rfl (fun a w G V hs _ hS => res1 rfl (.tmp 0 rfl) a w G V hS)
    · have h := ite_f hc h
      refine cw_seq fun K8 hK8 => ?_
      refine cw_region ?_
      refine nx_o (op_fieldVar (.tmp 1 rfl) 0 rfl o32_1) rfl ?_
      refine nx_o (op_loadV (.tmp 0 rfl) 0 rfl rfl a3) rfl ?_
      refine nx_o (op_neq (.tmp 0 rfl) (Can.int _ _ _)) rfl ?_
      refine nx_o (op_move (.tmp 0 rfl)) rfl ?_
      refine nx_g (opy_guard (cc := (!(v_y4.cut != 0))) (.plain 0 rfl) rfl rfl (fun hg => (op_fieldVar (.tmp 5 rfl) 0 rfl o32_2))) rfl ?_
      refine nx_g (opy_guard (cc := (!(v_y4.cut != 0))) (.plain 1 rfl) rfl rfl (fun hg => (op_loadV (.cd 0 rfl hg) 0 rfl rfl a3))) rfl ?_
      refine nx_g (opy_guard (cc := (!(v_y4.cut != 0))) (.plain 2 rfl) rfl rfl (fun hg => (op_neq (.cd 0 rfl hg) (Can.int _ _ _)))) rfl ?_
      refine nx_o (op_or (.tmp 3 rfl) (fun hp => (.cd 0 rfl (not_t hp)))) rfl ?_
      refine nx_o (op_move (.tmp 0 rfl)) rfl ?_
      refine nx_g (opy_guard (cc := (!((v_y4.cut != 0) || (v_y4.left != 0)))) (.plain 0 rfl) rfl rfl (fun hg => (op_fieldVar (.tmp 10 rfl) 0 rfl o32_3))) rfl ?_
      refine nx_g (opy_guard (cc := (!((v_y4.cut != 0) || (v_y4.left != 0)))) (.plain 1 rfl) rfl rfl (fun hg => (op_loadV (.cd 0 rfl hg) 0 rfl rfl a3))) rfl ?_
      refine nx_g (opy_guard (cc := (!((v_y4.cut != 0) || (v_y4.left != 0)))) (.plain 2 rfl) rfl rfl (fun hg => (op_neq (.cd 0 rfl hg) (Can.int _ _ _)))) rfl ?_
      refine nx_o (op_or (.tmp 3 rfl) (fun hp => (.cd 0 rfl (not_t hp)))) rfl ?_
      refine nx_o (op_move (.tmp 0 rfl)) rfl ?_
      refine nx_g (opy_guard (cc := (!(((v_y4.cut != 0) || (v_y4.left != 0)) || (v_y4.right != 0)))) (.plain 0 rfl) rfl rfl (fun hg => (op_fieldVar (.tmp 15 rfl) 0 rfl o32_4))) rfl ?_
      refine nx_g (opy_guard (cc := (!(((v_y4.cut != 0) || (v_y4.left != 0)) || (v_y4.right != 0)))) (.plain 1 rfl) rfl rfl (fun hg => (op_loadV (.cd 0 rfl hg) 0 rfl rfl a4))) rfl ?_
      refine nx_o (op_or (.tmp 2 rfl) (fun hp => (.cd 0 rfl (not_t hp)))) rfl ?_
      refine nx_o (op_assign (.tmp 0 rfl)) rfl ?_
      refine nx_nil ?_
      refine Says.ex (S' := [(22, B ((((v_y4.cut != 0) || (v_y4.left != 0)) || (v_y4.right != 0)) || v_y4.less))]) (O' := []) (says_pick [0] [] rfl rfl) ?_
      refine ex_kx (hK8 _ _ ?_)
      refine cw_cond (b := ((((v_y4.cut != 0) || (v_y4.left != 0)) || (v_y4.right != 0)) || v_y4.less)) (.tmp 0 rfl) (fun hc => ?_) (fun hc => ?_)
      · have h := ite_t hc h
        refine cw_seq fun K9 hK9 => ?_
        refine cw_region ?_
        refine nx_o (op_mkErr (Can.int _ _ _) u95 (fun _ h => by cases h)) rfl ?_
        refine nx_o (op_assign (.tmp 0 rfl)) rfl ?_
        refine nx_nil ?_
        refine Says.ex (S' := [(6, Er TE (some 3))]) (O' := []) (says_pick [0] [] rfl rfl) ?_
        refine ex_kx (hK9 _ _ ?_)
        refine cw_ret ?_
        refine ex_br ?_
        refine ex_tr ?_
        refine ex_tr ?_
        cases h
        exact ex_done (.inl rfl) rfl (fun a w G V hs _ hS => res1 rfl (.tmp 0 rfl) a w G V hS)
      · have h := ite_f hc h
        refine cw_skip ?_
        refine ex_bn ?_
        refine ex_kx (hK5 _ _ ?_)
        refine cw_seq fun K10 hK10 => ?_
        refine cw_region ?_
        refine nx_o (op_assign (Can.nilE _ TE)) rfl ?_
        refine nx_nil ?_
        refine Says.ex (S' := [(6, Er TE none)]) (O' := []) (says_pick [0] [] rfl rfl) ?_
        refine ex_kx (hK10 _ _ ?_)
        refine cw_ret ?_
        refine ex_tr ?_
        cases h
        exact ex_done (.inl rfl) rfl (fun a w G V hs _ hS => res1 rfl (.tmp 0 rfl) a w G V hS)
  · have h := ite_f hc h
    refine cw_skip ?_
    refine ex_kx (hK3 _ _ ?_)
    refine cw_seq fun K11 hK11 => ?_
    refine cw_region ?_
    refine nx_o (op_makeFunc (.cons (.tmp 2 rfl) (.cons (.tmp 3 rfl) .nil))) rfl ?_
    refine nx_o (op_assign (.tmp 0 rfl)) rfl ?_
    refine nx_nil ?_
    refine Says.ex (S' := [(8, .clo 104 [.ptr (cI v_a2), .ptr (cLNode v_a1)]), (7, .ref 101), (2, I v_a3)]) (O' := [(101, .var 32 [I v_y4.feature, I v_y4.cut, I v_y4.left, I v_y4.right, B v_y4.less, I v_y4.value])]) (says_pick [0, 3, 6] [0] rfl rfl) ?_
    refine ex_kx (hK11 _ _ ?_)
    refine cw_seq fun K12 hK12 => ?_
    refine cw_block ?_
    refine cw_seq fun K13 hK13 => ?_
    refine cw_region ?_
    refine nx_o (op_fieldVar (.tmp 1 rfl) 0 rfl o32_0) rfl ?_
    refine nx_o (op_loadV (.tmp 0 rfl) 0 rfl rfl a3) rfl ?_
    refine nx_o (op_lss (.tmp 0 rfl) (Can.int _ _ _)) rfl ?_
    refine nx_o (op_move (.tmp 0 rfl)) rfl ?_
    refine nx_g (opy_guard (cc := (!(decide (v_y4.feature < 0)))) (.plain 0 rfl) rfl rfl (fun hg => (op_fieldVar (.tmp 5 rfl) 0 rfl o32_0))) rfl ?_
    refine nx_g (opy_guard (cc := (!(decide (v_y4.feature < 0)))) (.plain 1 rfl) rfl rfl (fun hg => (op_loadV (.cd 0 rfl hg) 0 rfl rfl a3))) rfl ?_
    refine nx_g (opy_guard (cc := (!(decide (v_y4.feature < 0)))) (.plain 2 rfl) rfl rfl (fun hg => (op_move (.tmp 8 rfl)))) rfl ?_
    refine nx_g (opy_guard (cc := (!(decide (v_y4.feature < 0)))) (.plain 3 rfl) rfl rfl (fun hg => (op_geq (.cd 1 rfl hg) (.cd 0 rfl hg)))) rfl ?_
    refine nx_o (op_or (.tmp 4 rfl) (fun hp => (.cd 0 rfl (not_t hp)))) rfl ?_
    refine nx_o (op_move (.tmp 0 rfl)) rfl ?_
    refine nx_g (opy_guard (cc := (!((decide (v_y4.feature < 0)) || (decide (v_y4.feature ≥ v_a3))))) (.plain 0 rfl) rfl rfl (fun hg => (op_fieldVar (.tmp 11 rfl) 0 rfl o32_1))) rfl ?_
    refine nx_g (opy_guard (cc := (!((decide (v_y4.feature < 0)) || (decide (v_y4.feature ≥ v_a3))))) (.plain 1 rfl) rfl rfl (fun hg => (op_loadV (.cd 0 rfl hg) 0 rfl rfl a3))) rfl ?_
    obtain ⟨v_r6, hv_r6, h⟩ := bnd h
    refine nx_g (opy_guard (cc := (!((decide (v_y4.feature < 0)) || (decide (v_y4.feature ≥ v_a3))))) (.plain 2 rfl) rfl rfl (fun hg => (op_call0 (show Fn Go.Proofs.Try.prog 85 [I v_y4.cut] [] (B v_r6) [] from (f85_fn N v_y4.cut _ (gd_t hg hv_r6))) c85 (.cons (.cd 0 rfl hg) .nil)))) rfl ?_
    refine nx_g (opy_guard (cc := (!((decide (v_y4.feature < 0)) || (decide (v_y4.feature ≥ v_a3))))) (.plain 3 rfl) rfl rfl (fun hg => (op_not (.cd 0 rfl hg)))) rfl ?_
    refine nx_o (op_or (.tmp 4 rfl) (fun hp => (.cd 0 rfl (not_t hp)))) rfl ?_
    refine nx_o (op_move (.tmp 0 rfl)) rfl ?_
    refine nx_g (opy_guard (cc := (!(((decide (v_y4.feature < 0)) || (decide (v_y4.feature ≥ v_a3))) || (!v_r6)))) (.plain 0 rfl) rfl rfl (fun hg => (op_move (.tmp 16 rfl)))) rfl ?_
    refine nx_g (opy_guard (cc := (!(((decide (v_y4.feature < 0)) || (decide (v_y4.feature ≥ v_a3))) || (!v_r6)))) (.plain 1 rfl) rfl rfl (fun hg => (op_fieldVar (.tmp 18 rfl) 0 rfl o32_2))) rfl ?_
    refine nx_g (opy_guard (cc := (!(((decide (v_y4.feature < 0)) || (decide (v_y4.feature ≥ v_a3))) || (!v_r6)))) (.plain 2 rfl) rfl rfl (fun hg => (op_loadV (.cd 0 rfl hg) 0 rfl rfl a3))) rfl ?_
    obtain ⟨v_r7, hv_r7, h⟩ := bnd h
    refine nx_g (opy_guard (cc := (!(((decide (v_y4.feature < 0)) || (decide (v_y4.feature ≥ v_a3))) || (!v_r6)))) (.plain 3 rfl) rfl rfl (fun hg => (op_callC (show Fn Go.Proofs.Try.prog 104 ([I v_y4.left] ++ [.ptr (cI v_a2), .ptr (cLNode v_a1)]) [] (B v_r7) [] from (f104_fn N v_y4.left v_a2 v_a1 _ (gd_t hg hv_r7))) c104 (.cd 2 rfl hg) (.cons (.cd 0 rfl hg) .nil)))) rfl ?_
    refine nx_g (opy_guard (cc := (!(((decide (v_y4.feature < 0)) || (decide (v_y4.feature ≥ v_a3))) || (!v_r6)))) (.plain 4 rfl) rfl rfl (fun hg => (op_not (.cd 0 rfl hg)))) rfl ?_
    refine nx_o (op_or (.tmp 5 rfl) (fun hp => (.cd 0 rfl (not_t hp)))) rfl ?_
    refine nx_o (op_move (.tmp 0 rfl)) rfl ?_
    refine nx_g (opy_guard (cc := (!((((decide (v_y4.feature < 0)) || (decide (v_y4.feature ≥ v_a3))) || (!v_r6)) || (!v_r7)))) (.plain 0 rfl) rfl rfl (fun hg => (op_move (.tmp 23 rfl)))) rfl ?_
    refine nx_g (opy_guard (cc := (!((((decide (v_y4.feature < 0)) || (decide (v_y4.feature ≥ v_a3))) || (!v_r6)) || (!v_r7)))) (.plain 1 rfl) rfl rfl (fun hg => (op_fieldVar (.tmp 25 rfl) 0 rfl o32_3))) rfl ?_
    refine nx_g (opy_guard (cc := (!((((decide (v_y4.feature < 0)) || (decide (v_y4.feature ≥ v_a3))) || (!v_r6)) || (!v_r7)))) (.plain 2 rfl) rfl rfl (fun hg => (op_loadV (.cd 0 rfl hg) 0 rfl rfl a3))) rfl ?_
    obtain ⟨v_r8, hv_r8, h⟩ := bnd h
    refine nx_g (opy_guard (cc := (!((((decide (v_y4.feature < 0)) || (decide (v_y4.feature ≥ v_a3))) || (!v_r6)) || (!v_r7)))) (.plain 3 rfl) rfl rfl (fun hg => (op_callC (show Fn Go.Proofs.Try.prog 104 ([I v_y4.right] ++ [.ptr (cI v_a2), .ptr (cLNode v_a1)]) [] (B v_r8) [] from (f104_fn N v_y4.right v_a2 v_a1 _ (gd_t hg hv_r8))) c104 (.cd 2 rfl hg) (.cons (.cd 0 rfl hg) .nil)))) rfl ?_
    refine nx_g (opy_guard (cc := (!((((decide (v_y4.feature < 0)) || (decide (v_y4.feature ≥ v_a3))) || (!v_r6)) || (!v_r7)))) (.plain 4 rfl) rfl rfl (fun hg => (op_not (.cd 0 rfl hg)))) rfl ?_
    refine nx_o (op_or (.tmp 5 rfl) (fun hp => (.cd 0 rfl (not_t hp)))) rfl ?_
    refine nx_o (op_assign (.tmp 0 rfl)) rfl ?_
    refine nx_nil ?_
    refine Says.ex (S' := [(42, B (((((decide (v_y4.feature < 0)) || (decide (v_y4.feature ≥ v_a3))) || (!v_r6)) || (!v_r7)) || (!v_r8))), (7, .ref 101)]) (O' := [(101, .var 32 [I v_y4.feature, I v_y4.cut, I v_y4.left, I v_y4.right, B v_y4.less, I v_y4.value])]) (says_pick [0, 31] [0] rfl rfl) ?_
    refine ex_kx (hK13 _ _ ?_)
    refine cw_cond (b := (((((decide (v_y4.feature < 0)) || (decide (v_y4.feature ≥ v_a3))) || (!v_r6)) || (!v_r7)) || (!v_r8))) (.tmp 0 rfl) (fun hc => ?_) (fun hc => ?_)
    · have h := ite_t hc h
      refine cw_seq fun K14 hK14 => ?_
      refine cw_region ?_
      refine nx_o (op_mkErr (Can.int _ _ _) u95 (fun _ h => by cases h)) rfl ?_
      refine nx_o (op_assign (.tmp 0 rfl)) rfl ?_
      refine nx_nil ?_
      refine Says.ex (S' := [(6, Er TE (some 1))]) (O' := []) (says_pick [0] [] rfl rfl) ?_
      refine ex_kx (hK14 _ _ ?_)
      refine cw_ret ?_
      refine ex_br ?_
      refine ex_tr ?_
      cases h
      exact ex_done (.inl rfl) rfl (fun a w G V hs _ hS => res1 rfl (.tmp 0 rfl) a w G V hS)
    · have h := ite_f hc h
      refine cw_seq fun K15 hK15 => ?_
      refine cw_region ?_
      refine nx_o (op_fieldVar (.tmp 1 rfl) 0 rfl o32_5) rfl ?_
      refine nx_o (op_loadV (.tmp 0 rfl) 0 rfl rfl a3) rfl ?_
      refine nx_o (op_neq (.tmp 0 rfl) (Can.int _ _ _)) rfl ?_
      refine nx_o (op_move (.tmp 0 rfl)) rfl ?_
      refine nx_g (opy_guard (cc := (!(v_y4.value != 0))) (.plain 0 rfl) rfl rfl (fun hg => (op_fieldVar (.tmp 5 rfl) 0 rfl o32_2))) rfl ?_
      refine nx_g (opy_guard (cc := (!(v_y4.value != 0))) (.plain 1 rfl) rfl rfl (fun hg => (op_loadV (.cd 0 rfl hg) 0 rfl rfl a3))) rfl ?_
      refine nx_g (opy_guard (cc := (!(v_y4.value != 0))) (.plain 2 rfl) rfl rfl (fun hg => (op_fieldVar (.tmp 7 rfl) 0 rfl o32_3))) rfl ?_
      refine nx_g (opy_guard (cc := (!(v_y4.value != 0))) (.plain 3 rfl) rfl rfl (fun hg => (op_loadV (.cd 0 rfl hg) 0 rfl rfl a3))) rfl ?_
      refine nx_g (opy_guard (cc := (!(v_y4.value != 0))) (.plain 4 rfl) rfl rfl (fun hg => (op_eql (.cd 2 rfl hg) (.cd 0 rfl hg)))) rfl ?_
      refine nx_o (op_or (.tmp 5 rfl) (fun hp => (.cd 0 rfl (not_t hp)))) rfl ?_
      refine nx_o (op_assign (.tmp 0 rfl)) rfl ?_
      refine nx_nil ?_
      refine Says.ex (S' := [(73, B ((v_y4.value != 0) || (v_y4.left == v_y4.right)))]) (O' := []) (says_pick [0] [] rfl rfl) ?_
      refine ex_kx (hK15 _ _ ?_)
      refine cw_cond (b := ((v_y4.value != 0) || (v_y4.left == v_y4.right))) (.tmp 0 rfl) (fun hc => ?_) (fun hc => ?_)
      · have h := ite_t hc h
        refine cw_seq fun K16 hK16 => ?_
        refine cw_region ?_
        refine nx_o (op_mkErr (Can.int _ _ _) u95 (fun _ h => by cases h)) rfl ?_
        refine nx_o (op_assign (.tmp 0 rfl)) rfl ?_
        refine nx_nil ?_
        refine Says.ex (S' := [(6, Er TE (some 3))]) (O' := []) (says_pick [0] [] rfl rfl) ?_
        refine ex_kx (hK16 _ _ ?_)
        refine cw_ret ?_
        refine ex_br ?_
        refine ex_tr ?_
        cases h
        exact ex_done (.inl rfl) rfl (fun a w G V hs _ hS => res1 rfl (.tmp 0 rfl) a w G V hS)
      · have h := ite_f hc h
        refine cw_skip ?_
        refine ex_bn ?_
        refine ex_kx (hK12 _ _ ?_)
        refine cw_seq fun K17 hK17 => ?_
        refine cw_region ?_
        refine nx_o (op_assign (Can.nilE _ TE)) rfl ?_
        refine nx_nil ?_
        refine Says.ex (S' := [(6, Er TE none)]) (O' := []) (says_pick [0] [] rfl rfl) ?_
        refine ex_kx (hK17 _ _ ?_)
        refine cw_ret ?_
        cases h
        exact ex_done (.inl rfl) rfl (fun a w G V hs _ hS => res1 rfl (.tmp 0 rfl) a w G V hS)

theorem f59_fn (N : Nat) (v_t1 : List Node) (r : Int) (h : tree_depth N v_t1 = some r) : Fn Go.Proofs.Try.prog 59 [SL 6 cNode v_t1] [] (I r) [] := by
  unfold tree_depth at h
  refine fn_intro [] fun59 rfl rfl (Nat.le_of_ble_eq_true rfl) rfl rfl (fun w G V => ?_)
  show Cw _ _ _ _ [(0, SL 6 cNode v_t1)] []
  refine cw_seq fun K1 hK1 => ?_
  refine cw_region ?_
  refine nx_o (op_assign (Can.int _ _ _)) rfl ?_
  refine nx_nil ?_
  refine Says.ex (S' := [(0, SL 6 cNode v_t1)]) (O' := []) (says_pick [1] [] rfl rfl) ?_
  refine ex_kx (hK1 _ _ ?_)
  refine cw_seq fun K2 hK2 => ?_
  refine cw_region ?_
  refine nx_o (op_move (.tmp 0 rfl)) rfl ?_
  refine nx_o (op_len (.tmp 0 rfl) u26) rfl ?_
  obtain ⟨v_t2, hv_t2, h⟩ := bnd h
  refine nx_op (op_makeX (n := 1) (c := cI) hv_t2 101 (.tmp 0 rfl) (.tmp 0 rfl) u23 i3 (by decide) (by decide) bl23 zI (fun _ => rfl) rfl) rfl ?_
  show Nx _ _ _ _ _ [(8, .ref 101), (7, I (v_t1.length : Int)), (6, SL 6 cNode v_t1), (0, SL 6 cNode v_t1)] [(101, .row 3 1 cI v_t2)]
  refine nx_o (op_assign (.tmp 0 rfl)) rfl ?_
  refine nx_nil ?_
  refine Says.ex (S' := [(3, .ref 101), (0, SL 6 cNode v_t1)]) (O' := [(101, .row 3 1 cI v_t2)]) (says_pick [0, 4] [0] rfl rfl) ?_
  refine ex_kx (hK2 _ _ ?_)
  refine cw_join (fun S O => ∃ (v_d19 : List Int), tree_depth_j1 N v_d19 = some r ∧ S = [(3, .ref 101)] ∧ O = [(101, .row 3 1 cI v_d19)]) ?_ (fun K21 hK21 => ?_)
  · rintro S O ⟨v_d19, h, rfl, rfl⟩
    unfold tree_depth_j1 at h
    refine cw_seq fun K22 hK22 => ?_
    refine cw_region ?_
    refine nx_o (op_move (.tmp 0 rfl)) rfl ?_
    obtain ⟨v_y20, hv_y20, h⟩ := bnd h
    refine nx_o (op_indexRX hv_y20 (.tmp 0 rfl) 0 rfl (Can.int _ _ _) u23 s3) rfl ?_
    refine nx_o (op_loadR (n := 1) (c := cI) (l := v_d19) (.tmp 0 rfl) 0 rfl _ 0 rfl (ix_spec hv_y20).2 rfl a3) rfl ?_
    refine nx_o (op_assign (.tmp 0 rfl)) rfl ?_
    refine nx_nil ?_
    refine Says.ex (S' := [(2, I v_y20)]) (O' := []) (says_pick [0] [] rfl rfl) ?_
    refine ex_kx (hK22 _ _ ?_)
    refine cw_ret ?_
    cases h
    exact ex_done (.inl rfl) rfl (fun a w G V hs _ hS => res1 rfl (.tmp 0 rfl) a w G V hS)
  ·
    refine cw_seq fun K23 hK23 => ?_
    refine cw_region ?_
    refine nx_o (op_move (.tmp 1 rfl)) rfl ?_
    refine nx_o (op_len (.tmp 0 rfl) u26) rfl ?_
    refine nx_o (op_sub (.tmp 0 rfl) (Can.int _ _ _)) rfl ?_
    refine nx_o (op_assign (.tmp 0 rfl)) rfl ?_
    refine nx_nil ?_
    refine Says.ex (S' := [(4, I (w64 ((v_t1.length : Int) - 1))), (3, .ref 101), (0, SL 6 cNode v_t1)]) (O' := [(101, .row 3 1 cI v_t2)]) (says_pick [0, 4, 5] [0] rfl rfl) ?_
    refine ex_kx (hK23 _ _ ?_)
    refine cw_block ?_
    refine Says.cw (S' := [(0, SL 6 cNode v_t1), (3, .ref 101), (4, I (w64 ((v_t1.length : Int) - 1)))]) (O' := [(101, .row 3 1 cI v_t2)]) (says_pick [2, 1, 0] [0] rfl rfl) ?_
    refine cw_loopJ (fun n S O => ∃ (v_d31 : List Int) (v_i32 : Int), tree_depth_l1 N v_t1 n v_d31 v_i32 = some r ∧ S = [(0, SL 6 cNode v_t1), (3, .ref 101), (4, I v_i32)] ∧ O = [(101, .row 3 1 cI v_d31)]) ?_ ?_ N ⟨v_t2, w64 ((v_t1.length : Int) - 1), h, rfl, rfl⟩
    · rintro S O ⟨v_d31, v_i32, h, -, -⟩
      simp [tree_depth_l1] at h
    · rintro n_1 S O ⟨v_d31, v_i32, h, rfl, rfl⟩ K34 hK34
      rw [tree_depth_l1] at h
      refine cw_seq fun K35 hK35 => ?_
      refine cw_seq fun K36 hK36 => ?_
      refine cw_region ?_
      refine nx_o (op_move (.tmp 2 rfl)) rfl ?_
      refine nx_o (op_geq (.tmp 0 rfl) (Can.int _ _ _)) rfl ?_
      refine nx_nil ?_
      refine Says.ex (S' := [(13, B (decide (v_i32 ≥ 0))), (0, SL 6 cNode v_t1), (3, .ref 101), (4, I v_i32)]) (O' := [(101, .row 3 1 cI v_d31)]) (says_pick [0, 2, 3, 4] [0] rfl rfl) ?_
      refine ex_kx (hK36 _ _ ?_)
      refine cw_cond (b := (decide (v_i32 ≥ 0))) (.tmp 0 rfl) (fun hc => ?_) (fun hc => ?_)
      · have h := ite_t hc h
        refine cw_skip ?_
        refine ex_kx (hK35 _ _ ?_)
        refine cw_seq fun K37 hK37 => ?_
        refine cw_block ?_
        refine cw_seq fun K38 hK38 => ?_
        refine cw_region ?_
        refine nx_o (op_move (.tmp 1 rfl)) rfl ?_
        refine nx_o (op_move (.tmp 4 rfl)) rfl ?_
        obtain ⟨v_y33, hv_y33, h⟩ := bnd h
        refine nx_o (op_indexX hv_y33 (.tmp 1 rfl) (.tmp 0 rfl) u26 s32) rfl ?_
        refine nx_o (op_loadA (cNode v_y33) (.tmp 0 rfl) a32 s32 rfl) rfl ?_
        refine nx_op (op_alloc 107 (cNode (Node.mk 0 0 0 0 false 0)) za32 zNode rfl) rfl ?_
        show Nx _ _ _ _ _ [(5, .ref 107), (19, .agg (cNode v_y33)), (18, .ptr (cNode v_y33)), (17, I v_i32), (16, SL 6 cNode v_t1), (13, B (decide (v_i32 ≥ 0))), (0, SL 6 cNode v_t1), (3, .ref 101), (4, I v_i32)] [(107, .var 32 [I 0, I 0, I 0, I 0, B false, I 0]), (101, .row 3 1 cI v_d31)]
        refine nx_o0 (op_storeVA (its := (cNode v_y33)) (.tmp 0 rfl) 0 rfl (.agg (.tmp 1 rfl)) rfl s32) ?_
        show Nx _ _ _ _ _ [(5, .ref 107), (19, .agg (cNode v_y33)), (18, .ptr (cNode v_y33)), (17, I v_i32), (16, SL 6 cNode v_t1), (13, B (decide (v_i32 ≥ 0))), (0, SL 6 cNode v_t1), (3, .ref 101), (4, I v_i32)] [(107, .var 32 [I v_y33.feature, I v_y33.cut, I v_y33.left, I v_y33.right, B v_y33.less, I v_y33.value]), (101, .row 3 1 cI v_d31)]
        refine nx_nil ?_
        refine Says.ex (S' := [(5, .ref 107), (0, SL 6 cNode v_t1), (3, .ref 101), (4, I v_i32)]) (O' := [(107, .var 32 [I v_y33.feature, I v_y33.cut, I v_y33.left, I v_y33.right, B v_y33.less, I v_y33.value]), (101, .row 3 1 cI v_d31)]) (says_pick [0, 6, 7, 8] [0, 1] rfl rfl) ?_
        refine ex_kx (hK38 _ _ ?_)
        refine cw_seq fun K39 hK39 => ?_
        refine cw_region ?_
        refine nx_o (op_fieldVar (.tmp 0 rfl) 0 rfl o32_0) rfl ?_
        refine nx_o (op_loadV (.tmp 0 rfl) 0 rfl rfl a3) rfl ?_
        refine nx_o (op_neq (.tmp 0 rfl) (Can.int _ _ _)) rfl ?_
        refine nx_nil ?_
        refine Says.ex (S' := [(22, B (v_y33.feature != (-1))), (5, .ref 107), (0, SL 6 cNode v_t1), (3, .ref 101), (4, I v_i32)]) (O' := [(107, .var 32 [I v_y33.feature, I v_y33.cut, I v_y33.left, I v_y33.right, B v_y33.less, I v_y33.value]), (101, .row 3 1 cI v_d31)]) (says_pick [0, 3, 4, 5, 6] [0, 1] rfl rfl) ?_
        refine ex_kx (hK39 _ _ ?_)
        refine cw_cond (b := (v_y33.feature != (-1))) (.tmp 0 rfl) (fun hc => ?_) (fun hc => ?_)
        · have h := ite_t hc h
          obtain ⟨v_y34, hv_y34, h⟩ := bnd h
          obtain ⟨v_y35, hv_y35, h⟩ := bnd h
          obtain ⟨v_y36, hv_y36, h⟩ := bnd h
          refine cw_draw (Plan.mk [15] [[], [], [], [], [3], [2, 3, 4], [2, 3, 4, 5], [], [], [8], [7, 8, 9], [7, 8, 9, 10], [2, 3, 4, 5, 6, 7, 8, 9, 10, 11], [2, 3, 4, 5, 6, 7, 8, 9, 10, 11, 12], [0, 1, 2, 3, 4, 5, 6, 7, 8, 9, 10, 11, 12, 13], [0, 1, 2, 3, 4, 5, 6, 7, 8, 9, 10, 11, 12, 13, 14]] [[(22, B (v_y33.feature != (-1))), (5, .ref 107), (0, SL 6 cNode v_t1), (3, .ref 101), (4, I v_i32)], [(22, B (v_y33.feature != (-1))), (5, .ref 107), (0, SL 6 cNode v_t1), (3, .ref 101), (4, I v_i32)]] [[(107, .var 32 [I v_y33.feature, I v_y33.cut, I v_y33.left, I v_y33.right, B v_y33.less, I v_y33.value]), (101, .row 3 1 cI v_d31)], [(101, .row 3 1 cI (v_d31.set v_i32.toNat (w64 (1 + (max v_y34 v_y35))))), (107, .var 32 [I v_y33.feature, I v_y33.cut, I v_y33.left, I v_y33.right, B v_y33.less, I v_y33.value])]] [(23, .ref 101), (24, I v_i32), (25, .ref 101), (26, .pt 107 2), (27, I v_y33.left), (28, .pt 101 (v_y33.left.toNat * 1)), (29, I v_y34), (30, .ref 101), (31, .pt 107 3), (32, I v_y33.right), (33, .pt 101 (v_y33.right.toNat * 1)), (34, I v_y35), (35, I (max v_y34 v_y35)), (36, I (w64 (1 + (max v_y34 v_y35)))), (37, .pt 101 (v_i32.toNat * 1)), (0, .raw undef)]) mixed rfl rfl rfl rfl ?_ ?_ ?_
          · exact (And.intro (fun _ => (And.intro (show OpY _ _ _ [(22, B (v_y33.feature != (-1))), (5, .ref 107), (0, SL 6 cNode v_t1), (3, .ref 101), (4, I v_i32)] [(107, .var 32 [I v_y33.feature, I v_y33.cut, I v_y33.left, I v_y33.right, B v_y33.less, I v_y33.value]), (101, .row 3 1 cI v_d31)] _ (.ref 101) [(107, .var 32 [I v_y33.feature, I v_y33.cut, I v_y33.left, I v_y33.right, B v_y33.less, I v_y33.value]), (101, .row 3 1 cI v_d31)] allp from (OpX.y (op_move (.tmp 3 rfl)) rfl)) trivial)) (And.intro (fun _ => (And.intro (show OpY _ _ _ [(22, B (v_y33.feature != (-1))), (5, .ref 107), (0, SL 6 cNode v_t1), (3, .ref 101), (4, I v_i32)] [(107, .var 32 [I v_y33.feature, I v_y33.cut, I v_y33.left, I v_y33.right, B v_y33.less, I v_y33.value]), (101, .row 3 1 cI v_d31)] _ (I v_i32) [(107, .var 32 [I v_y33.feature, I v_y33.cut, I v_y33.left, I v_y33.right, B v_y33.less, I v_y33.value]), (101, .row 3 1 cI v_d31)] allp from (OpX.y (op_move (.tmp 4 rfl)) rfl)) trivial)) (And.intro (fun _ => (And.intro (show OpY _ _ _ [(22, B (v_y33.feature != (-1))), (5, .ref 107), (0, SL 6 cNode v_t1), (3, .ref 101), (4, I v_i32)] [(107, .var 32 [I v_y33.feature, I v_y33.cut, I v_y33.left, I v_y33.right, B v_y33.less, I v_y33.value]), (101, .row 3 1 cI v_d31)] _ (.ref 101) [(107, .var 32 [I v_y33.feature, I v_y33.cut, I v_y33.left, I v_y33.right, B v_y33.less, I v_y33.value]), (101, .row 3 1 cI v_d31)] allp from (OpX.y (op_move (.tmp 3 rfl)) rfl)) trivial)) (And.intro (fun _ => (And.intro (show OpY _ _ _ [(22, B (v_y33.feature != (-1))), (5, .ref 107), (0, SL 6 cNode v_t1), (3, .ref 101), (4, I v_i32)] [(107, .var 32 [I v_y33.feature, I v_y33.cut, I v_y33.left, I v_y33.right, B v_y33.less, I v_y33.value]), (101, .row 3 1 cI v_d31)] _ (.pt 107 2) [(107, .var 32 [I v_y33.feature, I v_y33.cut, I v_y33.left, I v_y33.right, B v_y33.less, I v_y33.value]), (101, .row 3 1 cI v_d31)] allp from (OpX.y (op_fieldVar (.tmp 1 rfl) 0 rfl o32_2) rfl)) trivial)) (And.intro (fun _ => (And.intro (show OpY _ _ _ [(22, B (v_y33.feature != (-1))), (5, .ref 107), (0, SL 6 cNode v_t1), (3, .ref 101), (4, I v_i32), (26, .pt 107 2)] [(107, .var 32 [I v_y33.feature, I v_y33.cut, I v_y33.left, I v_y33.right, B v_y33.less, I v_y33.value]), (101, .row 3 1 cI v_d31)] _ (I v_y33.left) [(107, .var 32 [I v_y33.feature, I v_y33.cut, I v_y33.left, I v_y33.right, B v_y33.less, I v_y33.value]), (101, .row 3 1 cI v_d31)] allp from (OpX.y (op_loadV (.tmp 5 rfl) 0 rfl rfl a3) rfl)) trivial)) (And.intro (fun _ => (And.intro (show OpY _ _ _ [(22, B (v_y33.feature != (-1))), (5, .ref 107), (0, SL 6 cNode v_t1), (3, .ref 101), (4, I v_i32), (25, .ref 101), (26, .pt 107 2), (27, I v_y33.left)] [(107, .var 32 [I v_y33.feature, I v_y33.cut, I v_y33.left, I v_y33.right, B v_y33.less, I v_y33.value]), (101, .row 3 1 cI v_d31)] _ (.pt 101 (v_y33.left.toNat * 1)) [(107, .var 32 [I v_y33.feature, I v_y33.cut, I v_y33.left, I v_y33.right, B v_y33.less, I v_y33.value]), (101, .row 3 1 cI v_d31)] allp from (OpX.y (op_indexRX hv_y34 (.tmp 5 rfl) 1 rfl (.tmp 7 rfl) u23 s3) rfl)) trivial)) (And.intro (fun _ => (And.intro (show OpY _ _ _ [(22, B (v_y33.feature != (-1))), (5, .ref 107), (0, SL 6 cNode v_t1), (3, .ref 101), (4, I v_i32), (25, .ref 101), (26, .pt 107 2), (27, I v_y33.left), (28, .pt 101 (v_y33.left.toNat * 1))] [(107, .var 32 [I v_y33.feature, I v_y33.cut, I v_y33.left, I v_y33.right, B v_y33.less, I v_y33.value]), (101, .row 3 1 cI v_d31)] _ (I v_y34) [(107, .var 32 [I v_y33.feature, I v_y33.cut, I v_y33.left, I v_y33.right, B v_y33.less, I v_y33.value]), (101, .row 3 1 cI v_d31)] allp from (OpX.y (op_loadR (n := 1) (c := cI) (l := v_d31) (.tmp 8 rfl) 1 rfl _ 0 rfl (ix_spec hv_y34).2 rfl a3) rfl)) trivial)) (And.intro (fun _ => (And.intro (show OpY _ _ _ [(22, B (v_y33.feature != (-1))), (5, .ref 107), (0, SL 6 cNode v_t1), (3, .ref 101), (4, I v_i32)] [(107, .var 32 [I v_y33.feature, I v_y33.cut, I v_y33.left, I v_y33.right, B v_y33.less, I v_y33.value]), (101, .row 3 1 cI v_d31)] _ (.ref 101) [(107, .var 32 [I v_y33.feature, I v_y33.cut, I v_y33.left, I v_y33.right, B v_y33.less, I v_y33.value]), (101, .row 3 1 cI v_d31)] allp from (OpX.y (op_move (.tmp 3 rfl)) rfl)) trivial)) (And.intro (fun _ => (And.intro (show OpY _ _ _ [(22, B (v_y33.feature != (-1))), (5, .ref 107), (0, SL 6 cNode v_t1), (3, .ref 101), (4, I v_i32)] [(107, .var 32 [I v_y33.feature, I v_y33.cut, I v_y33.left, I v_y33.right, B v_y33.less, I v_y33.value]), (101, .row 3 1 cI v_d31)] _ (.pt 107 3) [(107, .var 32 [I v_y33.feature, I v_y33.cut, I v_y33.left, I v_y33.right, B v_y33.less, I v_y33.value]), (101, .row 3 1 cI v_d31)] allp from (OpX.y (op_fieldVar (.tmp 1 rfl) 0 rfl o32_3) rfl)) trivial)) (And.intro (fun _ => (And.intro (show OpY _ _ _ [(22, B (v_y33.feature != (-1))), (5, .ref 107), (0, SL 6 cNode v_t1), (3, .ref 101), (4, I v_i32), (31, .pt 107 3)] [(107, .var 32 [I v_y33.feature, I v_y33.cut, I v_y33.left, I v_y33.right, B v_y33.less, I v_y33.value]), (101, .row 3 1 cI v_d31)] _ (I v_y33.right) [(107, .var 32 [I v_y33.feature, I v_y33.cut, I v_y33.left, I v_y33.right, B v_y33.less, I v_y33.value]), (101, .row 3 1 cI v_d31)] allp from (OpX.y (op_loadV (.tmp 5 rfl) 0 rfl rfl a3) rfl)) trivial)) (And.intro (fun _ => (And.intro (show OpY _ _ _ [(22, B (v_y33.feature != (-1))), (5, .ref 107), (0, SL 6 cNode v_t1), (3, .ref 101), (4, I v_i32), (30, .ref 101), (31, .pt 107 3), (32, I v_y33.right)] [(107, .var 32 [I v_y33.feature, I v_y33.cut, I v_y33.left, I v_y33.right, B v_y33.less, I v_y33.value]), (101, .row 3 1 cI v_d31)] _ (.pt 101 (v_y33.right.toNat * 1)) [(107, .var 32 [I v_y33.feature, I v_y33.cut, I v_y33.left, I v_y33.right, B v_y33.less, I v_y33.value]), (101, .row 3 1 cI v_d31)] allp from (OpX.y (op_indexRX hv_y35 (.tmp 5 rfl) 1 rfl (.tmp 7 rfl) u23 s3) rfl)) trivial)) (And.intro (fun _ => (And.intro (show OpY _ _ _ [(22, B (v_y33.feature != (-1))), (5, .ref 107), (0, SL 6 cNode v_t1), (3, .ref 101), (4, I v_i32), (30, .ref 101), (31, .pt 107 3), (32, I v_y33.right), (33, .pt 101 (v_y33.right.toNat * 1))] [(107, .var 32 [I v_y33.feature, I v_y33.cut, I v_y33.left, I v_y33.right, B v_y33.less, I v_y33.value]), (101, .row 3 1 cI v_d31)] _ (I v_y35) [(107, .var 32 [I v_y33.feature, I v_y33.cut, I v_y33.left, I v_y33.right, B v_y33.less, I v_y33.value]), (101, .row 3 1 cI v_d31)] allp from (OpX.y (op_loadR (n := 1) (c := cI) (l := v_d31) (.tmp 8 rfl) 1 rfl _ 0 rfl (ix_spec hv_y35).2 rfl a3) rfl)) trivial)) (And.intro (fun _ => (And.intro (show OpY _ _ _ [(22, B (v_y33.feature != (-1))), (5, .ref 107), (0, SL 6 cNode v_t1), (3, .ref 101), (4, I v_i32), (25, .ref 101), (26, .pt 107 2), (27, I v_y33.left), (28, .pt 101 (v_y33.left.toNat * 1)), (29, I v_y34), (30, .ref 101), (31, .pt 107 3), (32, I v_y33.right), (33, .pt 101 (v_y33.right.toNat * 1)), (34, I v_y35)] [(107, .var 32 [I v_y33.feature, I v_y33.cut, I v_y33.left, I v_y33.right, B v_y33.less, I v_y33.value]), (101, .row 3 1 cI v_d31)] _ (I (max v_y34 v_y35)) [(107, .var 32 [I v_y33.feature, I v_y33.cut, I v_y33.left, I v_y33.right, B v_y33.less, I v_y33.value]), (101, .row 3 1 cI v_d31)] allp from (OpX.y (op_max (.tmp 9 rfl) (.tmp 14 rfl)) rfl)) trivial)) (And.intro (fun _ => (And.intro (show OpY _ _ _ [(22, B (v_y33.feature != (-1))), (5, .ref 107), (0, SL 6 cNode v_t1), (3, .ref 101), (4, I v_i32), (25, .ref 101), (26, .pt 107 2), (27, I v_y33.left), (28, .pt 101 (v_y33.left.toNat * 1)), (29, I v_y34), (30, .ref 101), (31, .pt 107 3), (32, I v_y33.right), (33, .pt 101 (v_y33.right.toNat * 1)), (34, I v_y35), (35, I (max v_y34 v_y35))] [(107, .var 32 [I v_y33.feature, I v_y33.cut, I v_y33.left, I v_y33.right, B v_y33.less, I v_y33.value]), (101, .row 3 1 cI v_d31)] _ (I (w64 (1 + (max v_y34 v_y35)))) [(107, .var 32 [I v_y33.feature, I v_y33.cut, I v_y33.left, I v_y33.right, B v_y33.less, I v_y33.value]), (101, .row 3 1 cI v_d31)] allp from (OpX.y (op_add (Can.int _ _ _) (.tmp 15 rfl)) rfl)) trivial)) (And.intro (fun _ => (And.intro (show OpY _ _ _ [(22, B (v_y33.feature != (-1))), (5, .ref 107), (0, SL 6 cNode v_t1), (3, .ref 101), (4, I v_i32), (23, .ref 101), (24, I v_i32), (25, .ref 101), (26, .pt 107 2), (27, I v_y33.left), (28, .pt 101 (v_y33.left.toNat * 1)), (29, I v_y34), (30, .ref 101), (31, .pt 107 3), (32, I v_y33.right), (33, .pt 101 (v_y33.right.toNat * 1)), (34, I v_y35), (35, I (max v_y34 v_y35)), (36, I (w64 (1 + (max v_y34 v_y35))))] [(107, .var 32 [I v_y33.feature, I v_y33.cut, I v_y33.left, I v_y33.right, B v_y33.less, I v_y33.value]), (101, .row 3 1 cI v_d31)] _ (.pt 101 (v_i32.toNat * 1)) [(107, .var 32 [I v_y33.feature, I v_y33.cut, I v_y33.left, I v_y33.right, B v_y33.less, I v_y33.value]), (101, .row 3 1 cI v_d31)] allp from (OpX.y (op_indexRX hv_y36 (.tmp 5 rfl) 1 rfl (.tmp 6 rfl) u23 s3) rfl)) trivial)) (And.intro (fun hn => (Bool.false_ne_true (hn.symm.trans rfl)).elim) trivial))))))))))))))))
          · exact (And.intro (fun o ho => by obtain rfl := Option.some.inj ho; exact ⟨⟨_, (.raw undef), [0, 1, 2, 3, 4], (OpY.to (show OpY _ _ _ [(22, B (v_y33.feature != (-1))), (5, .ref 107), (0, SL 6 cNode v_t1), (3, .ref 101), (4, I v_i32), (23, .ref 101), (24, I v_i32), (25, .ref 101), (26, .pt 107 2), (27, I v_y33.left), (28, .pt 101 (v_y33.left.toNat * 1)), (29, I v_y34), (30, .ref 101), (31, .pt 107 3), (32, I v_y33.right), (33, .pt 101 (v_y33.right.toNat * 1)), (34, I v_y35), (35, I (max v_y34 v_y35)), (36, I (w64 (1 + (max v_y34 v_y35)))), (37, .pt 101 (v_i32.toNat * 1))] [(107, .var 32 [I v_y33.feature, I v_y33.cut, I v_y33.left, I v_y33.right, B v_y33.less, I v_y33.value]), (101, .row 3 1 cI v_d31)] _ (.raw undef) _ _ from (OpX.y (op_storeR (n := 1) (c := cI) (l := v_d31) (.tmp 19 rfl) 1 rfl _ 0 (w64 (1 + (max v_y34 v_y35))) rfl (ix_spec hv_y36).2 (Nat.le_of_ble_eq_true rfl) rfl (.tmp 18 rfl) s3) rfl)) rfl), rfl, rfl⟩⟩) trivial)
          show Ex _ _ _ [(22, B (v_y33.feature != (-1))), (5, .ref 107), (0, SL 6 cNode v_t1), (3, .ref 101), (4, I v_i32), (23, .ref 101), (24, I v_i32), (25, .ref 101), (26, .pt 107 2), (27, I v_y33.left), (28, .pt 101 (v_y33.left.toNat * 1)), (29, I v_y34), (30, .ref 101), (31, .pt 107 3), (32, I v_y33.right), (33, .pt 101 (v_y33.right.toNat * 1)), (34, I v_y35), (35, I (max v_y34 v_y35)), (36, I (w64 (1 + (max v_y34 v_y35)))), (37, .pt 101 (v_i32.toNat * 1))] [(101, .row 3 1 cI (v_d31.set v_i32.toNat (w64 (1 + (max v_y34 v_y35))))), (107, .var 32 [I v_y33.feature, I v_y33.cut, I v_y33.left, I v_y33.right, B v_y33.less, I v_y33.value])]
          refine Says.ex (S' := [(0, SL 6 cNode v_t1), (3, .ref 101), (4, I v_i32)]) (O' := [(101, .row 3 1 cI (v_d31.set v_i32.toNat (w64 (1 + (max v_y34 v_y35)))))]) (says_pick [2, 3, 4] [0] rfl rfl) ?_
          refine ex_bn ?_
          refine ex_kx (hK37 _ _ ?_)
          refine cw_region ?_
          refine nx_o (op_move (.tmp 2 rfl)) rfl ?_
          refine nx_o (op_sub (.tmp 0 rfl) (Can.int _ _ _)) rfl ?_
          refine nx_k [0, 1, 2, 3] (op_assign (.tmp 0 rfl)) rfl rfl ?_
          show Nx _ _ _ _ _ [(4, I (w64 (v_i32 - 1))), (15, I (w64 (v_i32 - 1))), (14, I v_i32), (0, SL 6 cNode v_t1), (3, .ref 101)] [(101, .row 3 1 cI (v_d31.set v_i32.toNat (w64 (1 + (max v_y34 v_y35)))))]
          refine nx_nil ?_
          refine Says.ex (S' := [(4, I (w64 (v_i32 - 1))), (0, SL 6 cNode v_t1), (3, .ref 101)]) (O' := [(101, .row 3 1 cI (v_d31.set v_i32.toNat (w64 (1 + (max v_y34 v_y35)))))]) (says_pick [0, 3, 4] [0] rfl rfl) ?_
          refine ex_kx ?_
          refine Says.kx (S' := [(0, SL 6 cNode v_t1), (3, .ref 101), (4, I (w64 (v_i32 - 1)))]) (O' := [(101, .row 3 1 cI (v_d31.set v_i32.toNat (w64 (1 + (max v_y34 v_y35)))))]) (says_pick [1, 2, 0] [0] rfl rfl) ?_
          exact hK34 _ _ ⟨(v_d31.set v_i32.toNat (w64 (1 + (max v_y34 v_y35)))), w64 (v_i32 - 1), h, rfl, rfl⟩
        · have h := ite_f hc h
          refine cw_skip ?_
          refine ex_bn ?_
          refine ex_kx (hK37 _ _ ?_)
          refine cw_region ?_
          refine nx_o (op_move (.tmp 4 rfl)) rfl ?_
          refine nx_o (op_sub (.tmp 0 rfl) (Can.int _ _ _)) rfl ?_
          refine nx_k [0, 1, 2, 3, 4, 5] (op_assign (.tmp 0 rfl)) rfl rfl ?_
          show Nx _ _ _ _ _ [(4, I (w64 (v_i32 - 1))), (15, I (w64 (v_i32 - 1))), (14, I v_i32), (22, B (v_y33.feature != (-1))), (5, .ref 107), (0, SL 6 cNode v_t1), (3, .ref 101)] [(107, .var 32 [I v_y33.feature, I v_y33.cut, I v_y33.left, I v_y33.right, B v_y33.less, I v_y33.value]), (101, .row 3 1 cI v_d31)]
          refine nx_nil ?_
          refine Says.ex (S' := [(4, I (w64 (v_i32 - 1))), (0, SL 6 cNode v_t1), (3, .ref 101)]) (O' := [(101, .row 3 1 cI v_d31)]) (says_pick [0, 5, 6] [1] rfl rfl) ?_
          refine ex_kx ?_
          refine Says.kx (S' := [(0, SL 6 cNode v_t1), (3, .ref 101), (4, I (w64 (v_i32 - 1)))]) (O' := [(101, .row 3 1 cI v_d31)]) (says_pick [1, 2, 0] [0] rfl rfl) ?_
          exact hK34 _ _ ⟨v_d31, w64 (v_i32 - 1), h, rfl, rfl⟩
      · have h := ite_f hc h
        refine cw_exit ?_
        refine ex_te ?_
        refine ex_te ?_
        refine ex_be ?_
        refine ex_kx ?_
        refine Says.kx (S' := [(3, .ref 101)]) (O' := [(101, .row 3 1 cI v_d31)]) (says_pick [2] [0] rfl rfl) ?_
        exact hK21 _ _ ⟨v_d31, h, rfl, rfl⟩

end Go.Dl
