/- Printed by wip/gen: the calls compute it. -/
import Derived.Test.YtbalmknhjokgaaaDW1
set_option linter.unusedVariables false
set_option maxRecDepth 4000
set_option maxHeartbeats 2000000
namespace Go.Dl
open Go

theorem f18_fn (N : Nat) (v_a1 : List Node) (v_a2 : Int) (r : Int × (Option Int)) (h : tree_Check N v_a1 v_a2 = some r) : Fn Go.Proofs.Try.prog 18 [SL 6 cNode v_a1, I v_a2] [] (.tup [I r.1, Er TE r.2]) [] := by
  unfold tree_Check at h
  refine fn_intro [] fun18 rfl rfl (Nat.le_of_ble_eq_true rfl) rfl rfl (fun w G V => ?_)
  show Cw _ _ _ _ [(0, SL 6 cNode v_a1), (1, I v_a2)] []
  refine cw_seq fun K1 hK1 => ?_
  refine cw_region ?_
  refine nx_o (op_assign (Can.int _ _ _)) rfl ?_
  refine nx_o (op_assign (Can.nilE _ TE)) rfl ?_
  refine nx_nil ?_
  refine Says.ex (S' := [(0, SL 6 cNode v_a1), (1, I v_a2)]) (O' := []) (says_pick [2, 3] [] rfl rfl) ?_
  refine ex_kx (hK1 _ _ ?_)
  refine cw_seq fun K2 hK2 => ?_
  refine cw_block ?_
  refine cw_seq fun K3 hK3 => ?_
  refine cw_region ?_
  refine nx_o (op_move (.tmp 0 rfl)) rfl ?_
  refine nx_o (op_len (.tmp 0 rfl) u26) rfl ?_
  refine nx_o (op_gtr (.tmp 0 rfl) (Can.int _ _ _)) rfl ?_
  refine nx_o (op_assign (.tmp 0 rfl)) rfl ?_
  refine nx_nil ?_
  refine Says.ex (S' := [(12, B (decide ((v_a1.length : Int) > 63))), (0, SL 6 cNode v_a1), (1, I v_a2)]) (O' := []) (says_pick [0, 4, 5] [] rfl rfl) ?_
  refine ex_kx (hK3 _ _ ?_)
  refine cw_cond (b := (decide ((v_a1.length : Int) > 63))) (.tmp 0 rfl) (fun hc => ?_) (fun hc => ?_)
  · have h := ite_t hc h
    refine cw_seq fun K4 hK4 => ?_
    refine cw_region ?_
    refine nx_o (op_mkErr (Can.int _ _ _) u95 (fun _ h => by cases h)) rfl ?_
    refine nx_o (op_assign (Can.int _ _ _)) rfl ?_
    refine nx_o (op_assign (.tmp 1 rfl)) rfl ?_
    refine nx_nil ?_
    refine Says.ex (S' := [(5, Er TE (some 4)), (4, I 0)]) (O' := []) (says_pick [0, 1] [] rfl rfl) ?_
    refine ex_kx (hK4 _ _ ?_)
    refine cw_ret ?_
    refine ex_br ?_
    refine ex_tr ?_
    cases h
    refine Says.ex (S' := [(4, I 0), (5, Er TE (some 4))]) (O' := []) (says_pick [1, 0] [] rfl rfl) ?_
    exact ex_done (.inl rfl) rfl (fun a w G V hs _ hS => resM rfl (.tmp (.tmp 0 rfl) (.tmp (.tmp 1 rfl) .nil)) a w G V hs hS)
  · have h := ite_f hc h
    refine cw_seq fun K5 hK5 => ?_
    refine cw_region ?_
    refine nx_o (op_move (.tmp 1 rfl)) rfl ?_
    refine nx_o (op_len (.tmp 0 rfl) u26) rfl ?_
    refine nx_o (op_eql (.tmp 0 rfl) (Can.int _ _ _)) rfl ?_
    refine nx_o (op_assign (.tmp 0 rfl)) rfl ?_
    refine nx_nil ?_
    refine Says.ex (S' := [(17, B ((v_a1.length : Int) == 0)), (0, SL 6 cNode v_a1), (1, I v_a2)]) (O' := []) (says_pick [0, 5, 6] [] rfl rfl) ?_
    refine ex_kx (hK5 _ _ ?_)
    refine cw_cond (b := ((v_a1.length : Int) == 0)) (.tmp 0 rfl) (fun hc => ?_) (fun hc => ?_)
    · have h := ite_t hc h
      refine cw_seq fun K6 hK6 => ?_
      refine cw_region ?_
      refine nx_o (op_mkErr (Can.int _ _ _) u95 (fun _ h => by cases h)) rfl ?_
      refine nx_o (op_assign (Can.int _ _ _)) rfl ?_
      refine nx_o (op_assign (.tmp 1 rfl)) rfl ?_
      refine nx_nil ?_
      refine Says.ex (S' := [(5, Er TE (some 5)), (4, I 0)]) (O' := []) (says_pick [0, 1] [] rfl rfl) ?_
      refine ex_kx (hK6 _ _ ?_)
      refine cw_ret ?_
      refine ex_br ?_
      refine ex_tr ?_
      cases h
      refine Says.ex (S' := [(4, I 0), (5, Er TE (some 5))]) (O' := []) (says_pick [1, 0] [] rfl rfl) ?_
      exact ex_done (.inl rfl) rfl (fun a w G V hs _ hS => resM rfl (.tmp (.tmp 0 rfl) (.tmp (.tmp 1 rfl) .nil)) a w G V hs hS)
    · have h := ite_f hc h
      refine cw_seq fun K7 hK7 => ?_
      refine cw_region ?_
      refine nx_o (op_move (.tmp 2 rfl)) rfl ?_
      refine nx_o (op_lss (.tmp 0 rfl) (Can.int _ _ _)) rfl ?_
      refine nx_o (op_move (.tmp 0 rfl)) rfl ?_
      refine nx_g (opy_guard (cc := (!(decide (v_a2 < 0)))) (.plain 0 rfl) rfl rfl (fun hg => (op_move (.tmp 5 rfl)))) rfl ?_
      refine nx_g (opy_guard (cc := (!(decide (v_a2 < 0)))) (.plain 1 rfl) rfl rfl (fun hg => (op_gtr (.cd 0 rfl hg) (Can.int _ _ _)))) rfl ?_
      refine nx_o (op_or (.tmp 2 rfl) (fun hp => (.cd 0 rfl (not_t hp)))) rfl ?_
      refine nx_o (op_assign (.tmp 0 rfl)) rfl ?_
      refine nx_nil ?_
      refine Says.ex (S' := [(22, B ((decide (v_a2 < 0)) || (decide (v_a2 > 8)))), (0, SL 6 cNode v_a1), (1, I v_a2)]) (O' := []) (says_pick [0, 8, 9] [] rfl rfl) ?_
      refine ex_kx (hK7 _ _ ?_)
      refine cw_cond (b := ((decide (v_a2 < 0)) || (decide (v_a2 > 8)))) (.tmp 0 rfl) (fun hc => ?_) (fun hc => ?_)
      · have h := ite_t hc h
        refine cw_seq fun K8 hK8 => ?_
        refine cw_region ?_
        refine nx_o (op_mkErr (Can.int _ _ _) u95 (fun _ h => by cases h)) rfl ?_
        refine nx_o (op_assign (Can.int _ _ _)) rfl ?_
        refine nx_o (op_assign (.tmp 1 rfl)) rfl ?_
        refine nx_nil ?_
        refine Says.ex (S' := [(5, Er TE (some 1)), (4, I 0)]) (O' := []) (says_pick [0, 1] [] rfl rfl) ?_
        refine ex_kx (hK8 _ _ ?_)
        refine cw_ret ?_
        refine ex_br ?_
        refine ex_tr ?_
        cases h
        refine Says.ex (S' := [(4, I 0), (5, Er TE (some 1))]) (O' := []) (says_pick [1, 0] [] rfl rfl) ?_
        exact ex_done (.inl rfl) rfl (fun a w G V hs _ hS => resM rfl (.tmp (.tmp 0 rfl) (.tmp (.tmp 1 rfl) .nil)) a w G V hs hS)
      · have h := ite_f hc h
        refine cw_skip ?_
        refine ex_bn ?_
        refine ex_kx (hK2 _ _ ?_)
        refine cw_seq fun K9 hK9 => ?_
        refine cw_region ?_
        refine nx_o (op_move (.tmp 1 rfl)) rfl ?_
        refine nx_o (op_len (.tmp 0 rfl) u26) rfl ?_
        obtain ⟨v_t3, hv_t3, h⟩ := bnd h
        refine nx_op (op_makeX (n := 1) (c := cI) hv_t3 101 (.tmp 0 rfl) (.tmp 0 rfl) u23 i3 (by decide) (by decide) bl23 zI (fun _ => rfl) rfl) rfl ?_
        show Nx _ _ _ _ _ [(32, .ref 101), (31, I (v_a1.length : Int)), (30, SL 6 cNode v_a1), (22, B ((decide (v_a2 < 0)) || (decide (v_a2 > 8)))), (0, SL 6 cNode v_a1), (1, I v_a2)] [(101, .row 3 1 cI v_t3)]
        refine nx_o (op_assign (.tmp 0 rfl)) rfl ?_
        refine nx_nil ?_
        refine Says.ex (S' := [(6, .ref 101), (0, SL 6 cNode v_a1), (1, I v_a2)]) (O' := [(101, .row 3 1 cI v_t3)]) (says_pick [0, 5, 6] [0] rfl rfl) ?_
        refine ex_kx (hK9 _ _ ?_)
        refine cw_join (fun S O => ∃ (v_t26 : List Int), tree_Check_j1 N v_a1 v_t26 = some r ∧ S = [(0, SL 6 cNode v_a1), (6, .ref 101)] ∧ O = [(101, .row 3 1 cI v_t26)]) ?_ (fun K43 hK43 => ?_)
        · rintro S O ⟨v_t26, h, rfl, rfl⟩
          unfold tree_Check_j1 at h
          refine cw_join (fun S O => tree_Check_j2 N v_a1 = some r ∧ S = [(0, SL 6 cNode v_a1)] ∧ O = []) ?_ (fun K65 hK65 => ?_)
          · rintro S O ⟨h, rfl, rfl⟩
            unfold tree_Check_j2 at h
            refine cw_seq fun K66 hK66 => ?_
            refine cw_seq fun K67 hK67 => ?_
            refine cw_region ?_
            refine nx_o (op_move (.tmp 0 rfl)) rfl ?_
            obtain ⟨v_r32, hv_r32, h⟩ := bnd h
            refine nx_o (op_call0 (show Fn Go.Proofs.Try.prog 59 [SL 6 cNode v_a1] [] (I v_r32) [] from (f59_fn N v_a1 _ hv_r32)) c59 (.cons (.tmp 0 rfl) .nil)) rfl ?_
            refine nx_o (op_gtr (.tmp 0 rfl) (Can.int _ _ _)) rfl ?_
            refine nx_nil ?_
            refine Says.ex (S' := [(84, B (decide (v_r32 > 10)))]) (O' := []) (says_pick [0] [] rfl rfl) ?_
            refine ex_kx (hK67 _ _ ?_)
            refine cw_cond (b := (decide (v_r32 > 10))) (.tmp 0 rfl) (fun hc => ?_) (fun hc => ?_)
            · have h := ite_t hc h
              refine cw_seq fun K68 hK68 => ?_
              refine cw_region ?_
              refine nx_o (op_mkErr (Can.int _ _ _) u95 (fun _ h => by cases h)) rfl ?_
              refine nx_o (op_assign (Can.int _ _ _)) rfl ?_
              refine nx_o (op_assign (.tmp 1 rfl)) rfl ?_
              refine nx_nil ?_
              refine Says.ex (S' := [(5, Er TE (some 4)), (4, I 0)]) (O' := []) (says_pick [0, 1] [] rfl rfl) ?_
              refine ex_kx (hK68 _ _ ?_)
              refine cw_ret ?_
              refine ex_tr ?_
              cases h
              refine Says.ex (S' := [(4, I 0), (5, Er TE (some 4))]) (O' := []) (says_pick [1, 0] [] rfl rfl) ?_
              exact ex_done (.inl rfl) rfl (fun a w G V hs _ hS => resM rfl (.tmp (.tmp 0 rfl) (.tmp (.tmp 1 rfl) .nil)) a w G V hs hS)
            · have h := ite_f hc h
              refine cw_skip ?_
              refine ex_kx (hK66 _ _ ?_)
              refine cw_seq fun K69 hK69 => ?_
              refine cw_region ?_
              refine nx_o (op_assign (Can.int _ _ _)) rfl ?_
              refine nx_o (op_assign (Can.nilE _ TE)) rfl ?_
              refine nx_nil ?_
              refine Says.ex (S' := [(5, Er TE none), (4, I 0)]) (O' := []) (says_pick [0, 1] [] rfl rfl) ?_
              refine ex_kx (hK69 _ _ ?_)
              refine cw_ret ?_
              cases h
              refine Says.ex (S' := [(4, I 0), (5, Er TE none)]) (O' := []) (says_pick [1, 0] [] rfl rfl) ?_
              exact ex_done (.inl rfl) rfl (fun a w G V hs _ hS => resM rfl (.tmp (.tmp 0 rfl) (.tmp (.tmp 1 rfl) .nil)) a w G V hs hS)
          ·
            refine cw_seq fun K70 hK70 => ?_
            refine cw_region ?_
            refine nx_o (op_move (.tmp 1 rfl)) rfl ?_
            refine nx_o (op_lenR (.tmp 0 rfl) 0 rfl u23) rfl ?_
            refine nx_o (op_move (Can.int _ _ _)) rfl ?_
            refine nx_nil ?_
            refine Says.ex (S' := [(68, I 0), (67, I (v_t26.length : Int)), (66, .ref 101), (0, SL 6 cNode v_a1)]) (O' := [(101, .row 3 1 cI v_t26)]) (says_pick [0, 1, 2, 3] [0] rfl rfl) ?_
            refine ex_kx (hK70 _ _ ?_)
            refine cw_block ?_
            refine Says.cw (S' := [(0, SL 6 cNode v_a1), (66, .ref 101), (67, I (v_t26.length : Int)), (68, I 0)]) (O' := [(101, .row 3 1 cI v_t26)]) (says_pick [3, 2, 1, 0] [0] rfl rfl) ?_
            refine cw_loopJ (fun n S O => ∃ (v_t36 : Int), tree_Check_l1 N v_t26 v_a1 n v_t36 = some r ∧ S = [(0, SL 6 cNode v_a1), (66, .ref 101), (67, I (v_t26.length : Int)), (68, I v_t36)] ∧ O = [(101, .row 3 1 cI v_t26)]) ?_ ?_ N ⟨0, h, rfl, rfl⟩
            · rintro S O ⟨v_t36, h, -, -⟩
              simp [tree_Check_l1] at h
            · rintro n_1 S O ⟨v_t36, h, rfl, rfl⟩ K83 hK83
              rw [tree_Check_l1] at h
              refine cw_seq fun K84 hK84 => ?_
              refine cw_region ?_
              refine nx_o (op_lss (.tmp 3 rfl) (.tmp 2 rfl)) rfl ?_
              refine nx_nil ?_
              refine ex_kx (hK84 _ _ ?_)
              refine cw_seq fun K85 hK85 => ?_
              refine cw_cond (b := (decide (v_t36 < (v_t26.length : Int)))) (.tmp 0 rfl) (fun hc => ?_) (fun hc => ?_)
              · have h := ite_t hc h
                refine cw_skip ?_
                refine ex_kx (hK85 _ _ ?_)
                refine cw_seq fun K86 hK86 => ?_
                refine cw_block ?_
                refine cw_seq fun K87 hK87 => ?_
                refine cw_region ?_
                refine nx_o (op_move (.tmp 4 rfl)) rfl ?_
                obtain ⟨v_y37, hv_y37, h⟩ := bnd h
                refine nx_o (op_indexRX hv_y37 (.tmp 3 rfl) 0 rfl (.tmp 5 rfl) u23 s3) rfl ?_
                refine nx_o (op_loadR (n := 1) (c := cI) (l := v_t26) (.tmp 0 rfl) 0 rfl _ 0 rfl (ix_spec hv_y37).2 rfl a3) rfl ?_
                refine nx_o (op_assign (.tmp 2 rfl)) rfl ?_
                refine nx_o (op_assign (.tmp 1 rfl)) rfl ?_
                refine nx_nil ?_
                refine Says.ex (S' := [(11, I v_y37), (10, I v_t36), (0, SL 6 cNode v_a1), (66, .ref 101), (67, I (v_t26.length : Int)), (68, I v_t36)]) (O' := [(101, .row 3 1 cI v_t26)]) (says_pick [0, 1, 6, 7, 8, 9] [0] rfl rfl) ?_
                refine ex_kx (hK87 _ _ ?_)
                refine cw_seq fun K88 hK88 => ?_
                refine cw_region ?_
                refine nx_o (op_move (.tmp 1 rfl)) rfl ?_
                refine nx_o (op_gtr (.tmp 0 rfl) (Can.int _ _ _)) rfl ?_
                refine nx_o (op_move (.tmp 0 rfl)) rfl ?_
                refine nx_g (opy_guard (cc := (decide (v_t36 > 0))) (.plain 0 rfl) rfl rfl (fun hg => (op_move (.tmp 3 rfl)))) rfl ?_
                refine nx_g (opy_guard (cc := (decide (v_t36 > 0))) (.plain 1 rfl) rfl rfl (fun hg => (op_neq (.cd 0 rfl hg) (Can.int _ _ _)))) rfl ?_
                refine nx_o (op_and (.tmp 2 rfl) (fun hp => (.cd 0 rfl hp))) rfl ?_
                refine nx_nil ?_
                refine Says.ex (S' := [(78, B ((decide (v_t36 > 0)) && (v_y37 != 1))), (10, I v_t36), (0, SL 6 cNode v_a1), (66, .ref 101), (67, I (v_t26.length : Int)), (68, I v_t36)]) (O' := [(101, .row 3 1 cI v_t26)]) (says_pick [0, 7, 8, 9, 10, 11] [0] rfl rfl) ?_
                refine ex_kx (hK88 _ _ ?_)
                refine cw_cond (b := ((decide (v_t36 > 0)) && (v_y37 != 1))) (.tmp 0 rfl) (fun hc => ?_) (fun hc => ?_)
                · have h := ite_t hc h
                  refine cw_seq fun K89 hK89 => ?_
                  refine cw_region ?_
                  refine nx_o (op_move (.tmp 1 rfl)) rfl ?_
                  refine nx_o (op_mkErr (Can.int _ _ _) u95 (fun _ h => by cases h)) rfl ?_
                  refine nx_o (op_assign (.tmp 1 rfl)) rfl ?_
                  refine nx_o (op_assign (.tmp 1 rfl)) rfl ?_
                  refine nx_nil ?_
                  refine Says.ex (S' := [(5, Er TE (some 7)), (4, I v_t36)]) (O' := []) (says_pick [0, 1] [] rfl rfl) ?_
                  refine ex_kx (hK89 _ _ ?_)
                  refine cw_ret ?_
                  refine ex_br ?_
                  refine ex_tr ?_
                  refine ex_tr ?_
                  refine ex_br ?_
                  refine ex_tr ?_
                  cases h
                  refine Says.ex (S' := [(4, I v_t36), (5, Er TE (some 7))]) (O' := []) (says_pick [1, 0] [] rfl rfl) ?_
                  exact ex_done (.inl rfl) rfl (fun a w G V hs _ hS => resM rfl (.tmp (.tmp 0 rfl) (.tmp (.tmp 1 rfl) .nil)) a w G V hs hS)
                · have h := ite_f hc h
                  refine cw_skip ?_
                  refine ex_bn ?_
                  refine ex_kx (hK86 _ _ ?_)
                  refine cw_region ?_
                  refine nx_o (op_add (.tmp 5 rfl) (Can.int _ _ _)) rfl ?_
                  refine nx_k [0, 1, 2, 3, 4, 5] (op_move (.tmp 0 rfl)) rfl rfl ?_
                  show Nx _ _ _ _ _ [(68, I (w64 (v_t36 + 1))), (81, I (w64 (v_t36 + 1))), (78, B ((decide (v_t36 > 0)) && (v_y37 != 1))), (10, I v_t36), (0, SL 6 cNode v_a1), (66, .ref 101), (67, I (v_t26.length : Int))] [(101, .row 3 1 cI v_t26)]
                  refine nx_nil ?_
                  refine Says.ex (S' := [(68, I (w64 (v_t36 + 1))), (0, SL 6 cNode v_a1), (66, .ref 101), (67, I (v_t26.length : Int))]) (O' := [(101, .row 3 1 cI v_t26)]) (says_pick [0, 4, 5, 6] [0] rfl rfl) ?_
                  refine ex_kx ?_
                  refine Says.kx (S' := [(0, SL 6 cNode v_a1), (66, .ref 101), (67, I (v_t26.length : Int)), (68, I (w64 (v_t36 + 1)))]) (O' := [(101, .row 3 1 cI v_t26)]) (says_pick [1, 2, 3, 0] [0] rfl rfl) ?_
                  exact hK83 _ _ ⟨w64 (v_t36 + 1), h, rfl, rfl⟩
              · have h := ite_f hc h
                refine cw_exit ?_
                refine ex_te ?_
                refine ex_te ?_
                refine ex_be ?_
                refine ex_kx ?_
                refine Says.kx (S' := [(0, SL 6 cNode v_a1)]) (O' := []) (says_pick [1] [] rfl rfl) ?_
                exact hK65 _ _ ⟨h, rfl, rfl⟩
        ·
          refine cw_seq fun K90 hK90 => ?_
          refine cw_region ?_
          refine nx_o (op_move (.tmp 1 rfl)) rfl ?_
          refine nx_o (op_len (.tmp 0 rfl) u26) rfl ?_
          refine nx_o (op_move (Can.int _ _ _)) rfl ?_
          refine nx_nil ?_
          refine ex_kx (hK90 _ _ ?_)
          refine cw_block ?_
          refine Says.cw (S' := [(0, SL 6 cNode v_a1), (1, I v_a2), (6, .ref 101), (33, SL 6 cNode v_a1), (34, I (v_a1.length : Int)), (35, I 0)]) (O' := [(101, .row 3 1 cI v_t3)]) (says_pick [4, 5, 3, 2, 1, 0] [0] rfl rfl) ?_
          refine cw_loopJ (fun n S O => ∃ (v_t52 : List Int) (v_t53 : Int), tree_Check_l2 N v_a1 v_a2 n v_t52 v_t53 = some r ∧ S = [(0, SL 6 cNode v_a1), (1, I v_a2), (6, .ref 101), (33, SL 6 cNode v_a1), (34, I (v_a1.length : Int)), (35, I v_t53)] ∧ O = [(101, .row 3 1 cI v_t52)]) ?_ ?_ N ⟨v_t3, 0, h, rfl, rfl⟩
          · rintro S O ⟨v_t52, v_t53, h, -, -⟩
            simp [tree_Check_l2] at h
          · rintro n_2 S O ⟨v_t52, v_t53, h, rfl, rfl⟩ K111 hK111
            rw [tree_Check_l2] at h
            refine cw_seq fun K112 hK112 => ?_
            refine cw_region ?_
            refine nx_o (op_lss (.tmp 5 rfl) (.tmp 4 rfl)) rfl ?_
            refine nx_nil ?_
            refine ex_kx (hK112 _ _ ?_)
            refine cw_seq fun K113 hK113 => ?_
            refine cw_cond (b := (decide (v_t53 < (v_a1.length : Int)))) (.tmp 0 rfl) (fun hc => ?_) (fun hc => ?_)
            · have h := ite_t hc h
              refine cw_skip ?_
              refine ex_kx (hK113 _ _ ?_)
              refine cw_seq fun K114 hK114 => ?_
              refine cw_block ?_
              refine cw_seq fun K115 hK115 => ?_
              refine cw_region ?_
              refine nx_o (op_move (.tmp 6 rfl)) rfl ?_
              obtain ⟨v_y54, hv_y54, h⟩ := bnd h
              refine nx_o (op_indexX hv_y54 (.tmp 5 rfl) (.tmp 7 rfl) u26 s32) rfl ?_
              refine nx_o (op_loadA (cNode v_y54) (.tmp 0 rfl) a32 s32 rfl) rfl ?_
              refine nx_op (op_alloc 107 (cNode (Node.mk 0 0 0 0 false 0)) za32 zNode rfl) rfl ?_
              show Nx _ _ _ _ _ [(8, .ref 107), (39, .agg (cNode v_y54)), (38, .ptr (cNode v_y54)), (37, I v_t53), (36, B (decide (v_t53 < (v_a1.length : Int)))), (0, SL 6 cNode v_a1), (1, I v_a2), (6, .ref 101), (33, SL 6 cNode v_a1), (34, I (v_a1.length : Int)), (35, I v_t53)] [(107, .var 32 [I 0, I 0, I 0, I 0, B false, I 0]), (101, .row 3 1 cI v_t52)]
              refine nx_o (op_assign (.tmp 3 rfl)) rfl ?_
              refine nx_o0 (op_storeVA (its := (cNode v_y54)) (.tmp 1 rfl) 0 rfl (.agg (.tmp 2 rfl)) rfl s32) ?_
              show Nx _ _ _ _ _ [(7, I v_t53), (8, .ref 107), (39, .agg (cNode v_y54)), (38, .ptr (cNode v_y54)), (37, I v_t53), (36, B (decide (v_t53 < (v_a1.length : Int)))), (0, SL 6 cNode v_a1), (1, I v_a2), (6, .ref 101), (33, SL 6 cNode v_a1), (34, I (v_a1.length : Int)), (35, I v_t53)] [(107, .var 32 [I v_y54.feature, I v_y54.cut, I v_y54.left, I v_y54.right, B v_y54.less, I v_y54.value]), (101, .row 3 1 cI v_t52)]
              refine nx_nil ?_
              refine Says.ex (S' := [(7, I v_t53), (8, .ref 107), (0, SL 6 cNode v_a1), (1, I v_a2), (6, .ref 101), (33, SL 6 cNode v_a1), (34, I (v_a1.length : Int)), (35, I v_t53)]) (O' := [(107, .var 32 [I v_y54.feature, I v_y54.cut, I v_y54.left, I v_y54.right, B v_y54.less, I v_y54.value]), (101, .row 3 1 cI v_t52)]) (says_pick [0, 1, 6, 7, 8, 9, 10, 11] [0, 1] rfl rfl) ?_
              refine ex_kx (hK115 _ _ ?_)
              refine cw_seq fun K116 hK116 => ?_
              refine cw_seq fun K117 hK117 => ?_
              refine cw_region ?_
              refine nx_o (op_move (.tmp 2 rfl)) rfl ?_
              refine nx_o (op_move (.tmp 1 rfl)) rfl ?_
              refine nx_o (op_move (.tmp 5 rfl)) rfl ?_
              obtain ⟨v_r55, hv_r55, h⟩ := bnd h
              refine nx_o (op_call0 (show Fn Go.Proofs.Try.prog 58 [SL 6 cNode v_a1, I v_t53, I v_a2] [] (Er TE v_r55) [] from (f58_fn N v_a1 v_t53 v_a2 _ hv_r55)) c58 (.cons (.tmp 2 rfl) (.cons (.tmp 1 rfl) (.cons (.tmp 0 rfl) .nil)))) rfl ?_
              refine nx_o (op_assign (.tmp 0 rfl)) rfl ?_
              refine nx_nil ?_
              refine Says.ex (S' := [(9, Er TE v_r55), (7, I v_t53), (8, .ref 107), (0, SL 6 cNode v_a1), (1, I v_a2), (6, .ref 101), (33, SL 6 cNode v_a1), (34, I (v_a1.length : Int)), (35, I v_t53)]) (O' := [(107, .var 32 [I v_y54.feature, I v_y54.cut, I v_y54.left, I v_y54.right, B v_y54.less, I v_y54.value]), (101, .row 3 1 cI v_t52)]) (says_pick [0, 5, 6, 7, 8, 9, 10, 11, 12] [0, 1] rfl rfl) ?_
              refine ex_kx (hK117 _ _ ?_)
              refine cw_seq fun K118 hK118 => ?_
              refine cw_region ?_
              refine nx_o (op_move (.tmp 0 rfl)) rfl ?_
              refine nx_o (op_neqNil (.tmp 0 rfl) u28) rfl ?_
              refine nx_nil ?_
              refine Says.ex (S' := [(45, B v_r55.isSome), (9, Er TE v_r55), (7, I v_t53), (8, .ref 107), (0, SL 6 cNode v_a1), (1, I v_a2), (6, .ref 101), (33, SL 6 cNode v_a1), (34, I (v_a1.length : Int)), (35, I v_t53)]) (O' := [(107, .var 32 [I v_y54.feature, I v_y54.cut, I v_y54.left, I v_y54.right, B v_y54.less, I v_y54.value]), (101, .row 3 1 cI v_t52)]) (says_pick [0, 2, 3, 4, 5, 6, 7, 8, 9, 10] [0, 1] rfl rfl) ?_
              refine ex_kx (hK118 _ _ ?_)
              refine cw_cond (b := v_r55.isSome) (.tmp 0 rfl) (fun hc => ?_) (fun hc => ?_)
              · have h := ite_t hc h
                refine cw_seq fun K119 hK119 => ?_
                refine cw_region ?_
                refine nx_o (op_move (.tmp 2 rfl)) rfl ?_
                refine nx_o (op_move (.tmp 2 rfl)) rfl ?_
                refine nx_o (op_assign (.tmp 1 rfl)) rfl ?_
                refine nx_o (op_assign (.tmp 1 rfl)) rfl ?_
                refine nx_nil ?_
                refine Says.ex (S' := [(5, Er TE v_r55), (4, I v_t53)]) (O' := []) (says_pick [0, 1] [] rfl rfl) ?_
                refine ex_kx (hK119 _ _ ?_)
                refine cw_ret ?_
                refine ex_tr ?_
                refine ex_br ?_
                refine ex_tr ?_
                refine ex_tr ?_
                refine ex_br ?_
                refine ex_tr ?_
                cases h
                refine Says.ex (S' := [(4, I v_t53), (5, Er TE v_r55)]) (O' := []) (says_pick [1, 0] [] rfl rfl) ?_
                exact ex_done (.inl rfl) rfl (fun a w G V hs _ hS => resM rfl (.tmp (.tmp 0 rfl) (.tmp (.tmp 1 rfl) .nil)) a w G V hs hS)
              · have h := ite_f hc h
                refine cw_skip ?_
                refine ex_kx (hK116 _ _ ?_)
                refine cw_seq fun K120 hK120 => ?_
                refine cw_region ?_
                refine nx_o (op_fieldVar (.tmp 3 rfl) 0 rfl o32_0) rfl ?_
                refine nx_o (op_loadV (.tmp 0 rfl) 0 rfl rfl a3) rfl ?_
                refine nx_o (op_neq (.tmp 0 rfl) (Can.int _ _ _)) rfl ?_
                refine nx_nil ?_
                refine Says.ex (S' := [(50, B (v_y54.feature != (-1))), (8, .ref 107), (0, SL 6 cNode v_a1), (1, I v_a2), (6, .ref 101), (33, SL 6 cNode v_a1), (34, I (v_a1.length : Int)), (35, I v_t53)]) (O' := [(107, .var 32 [I v_y54.feature, I v_y54.cut, I v_y54.left, I v_y54.right, B v_y54.less, I v_y54.value]), (101, .row 3 1 cI v_t52)]) (says_pick [0, 6, 7, 8, 9, 10, 11, 12] [0, 1] rfl rfl) ?_
                refine ex_kx (hK120 _ _ ?_)
                refine cw_cond (b := (v_y54.feature != (-1))) (.tmp 0 rfl) (fun hc => ?_) (fun hc => ?_)
                · have h := ite_t hc h
                  refine cw_seq fun K121 hK121 => ?_
                  refine cw_region ?_
                  refine nx_o (op_move (.tmp 4 rfl)) rfl ?_
                  refine nx_o (op_fieldVar (.tmp 2 rfl) 0 rfl o32_2) rfl ?_
                  refine nx_o (op_loadV (.tmp 0 rfl) 0 rfl rfl a3) rfl ?_
                  obtain ⟨v_y56, hv_y56, h⟩ := bnd h
                  refine nx_o (op_indexRX hv_y56 (.tmp 2 rfl) 1 rfl (.tmp 0 rfl) u23 s3) rfl ?_
                  refine nx_o (op_loadR (n := 1) (c := cI) (l := v_t52) (.tmp 0 rfl) 1 rfl _ 0 rfl (ix_spec hv_y56).2 rfl a3) rfl ?_
                  refine nx_o (op_add (.tmp 0 rfl) (Can.int _ _ _)) rfl ?_
                  obtain ⟨v_y57, hv_y57, h⟩ := bnd h
                  refine nx_o (op_indexRX hv_y57 (.tmp 5 rfl) 1 rfl (.tmp 3 rfl) u23 s3) rfl ?_
                  refine nx_o0 (op_storeR (n := 1) (c := cI) (l := v_t52) (.tmp 0 rfl) 1 rfl _ 0 (w64 (v_y56 + 1)) rfl (ix_spec hv_y57).2 (Nat.le_of_ble_eq_true rfl) rfl (.tmp 1 rfl) s3) ?_
                  show Nx _ _ _ _ _ [(57, .pt 101 (v_y54.left.toNat * 1)), (56, I (w64 (v_y56 + 1))), (55, I v_y56), (54, .pt 101 (v_y54.left.toNat * 1)), (53, I v_y54.left), (52, .pt 107 2), (51, .ref 101), (50, B (v_y54.feature != (-1))), (8, .ref 107), (0, SL 6 cNode v_a1), (1, I v_a2), (6, .ref 101), (33, SL 6 cNode v_a1), (34, I (v_a1.length : Int)), (35, I v_t53)] [(101, .row 3 1 cI (v_t52.set v_y54.left.toNat (w64 (v_y56 + 1)))), (107, .var 32 [I v_y54.feature, I v_y54.cut, I v_y54.left, I v_y54.right, B v_y54.less, I v_y54.value])]
                  refine nx_nil ?_
                  refine Says.ex (S' := [(8, .ref 107), (0, SL 6 cNode v_a1), (1, I v_a2), (6, .ref 101), (33, SL 6 cNode v_a1), (34, I (v_a1.length : Int)), (35, I v_t53)]) (O' := [(101, .row 3 1 cI (v_t52.set v_y54.left.toNat (w64 (v_y56 + 1)))), (107, .var 32 [I v_y54.feature, I v_y54.cut, I v_y54.left, I v_y54.right, B v_y54.less, I v_y54.value])]) (says_pick [8, 9, 10, 11, 12, 13, 14] [0, 1] rfl rfl) ?_
                  refine ex_kx (hK121 _ _ ?_)
                  refine cw_region ?_
                  refine nx_o (op_move (.tmp 3 rfl)) rfl ?_
                  refine nx_o (op_fieldVar (.tmp 1 rfl) 1 rfl o32_3) rfl ?_
                  refine nx_o (op_loadV (.tmp 0 rfl) 1 rfl rfl a3) rfl ?_
                  obtain ⟨v_y58, hv_y58, h⟩ := bnd h
                  refine nx_o (op_indexRX hv_y58 (.tmp 2 rfl) 0 rfl (.tmp 0 rfl) u23 s3) rfl ?_
                  refine nx_o (op_loadR (n := 1) (c := cI) (l := (v_t52.set v_y54.left.toNat (w64 (v_y56 + 1)))) (.tmp 0 rfl) 0 rfl _ 0 rfl (ix_spec hv_y58).2 rfl a3) rfl ?_
                  refine nx_o (op_add (.tmp 0 rfl) (Can.int _ _ _)) rfl ?_
                  obtain ⟨v_y59, hv_y59, h⟩ := bnd h
                  refine nx_o (op_indexRX hv_y59 (.tmp 5 rfl) 0 rfl (.tmp 3 rfl) u23 s3) rfl ?_
                  refine nx_o0 (op_storeR (n := 1) (c := cI) (l := (v_t52.set v_y54.left.toNat (w64 (v_y56 + 1)))) (.tmp 0 rfl) 0 rfl _ 0 (w64 (v_y58 + 1)) rfl (ix_spec hv_y59).2 (Nat.le_of_ble_eq_true rfl) rfl (.tmp 1 rfl) s3) ?_
                  show Nx _ _ _ _ _ [(64, .pt 101 (v_y54.right.toNat * 1)), (63, I (w64 (v_y58 + 1))), (62, I v_y58), (61, .pt 101 (v_y54.right.toNat * 1)), (60, I v_y54.right), (59, .pt 107 3), (58, .ref 101), (8, .ref 107), (0, SL 6 cNode v_a1), (1, I v_a2), (6, .ref 101), (33, SL 6 cNode v_a1), (34, I (v_a1.length : Int)), (35, I v_t53)] [(101, .row 3 1 cI ((v_t52.set v_y54.left.toNat (w64 (v_y56 + 1))).set v_y54.right.toNat (w64 (v_y58 + 1)))), (107, .var 32 [I v_y54.feature, I v_y54.cut, I v_y54.left, I v_y54.right, B v_y54.less, I v_y54.value])]
                  refine nx_nil ?_
                  refine Says.ex (S' := [(0, SL 6 cNode v_a1), (1, I v_a2), (6, .ref 101), (33, SL 6 cNode v_a1), (34, I (v_a1.length : Int)), (35, I v_t53)]) (O' := [(101, .row 3 1 cI ((v_t52.set v_y54.left.toNat (w64 (v_y56 + 1))).set v_y54.right.toNat (w64 (v_y58 + 1))))]) (says_pick [8, 9, 10, 11, 12, 13] [0] rfl rfl) ?_
                  refine ex_bn ?_
                  refine ex_kx (hK114 _ _ ?_)
                  refine cw_region ?_
                  refine nx_o (op_add (.tmp 5 rfl) (Can.int _ _ _)) rfl ?_
                  refine nx_k [0, 1, 2, 3, 4, 5] (op_move (.tmp 0 rfl)) rfl rfl ?_
                  show Nx _ _ _ _ _ [(35, I (w64 (v_t53 + 1))), (65, I (w64 (v_t53 + 1))), (0, SL 6 cNode v_a1), (1, I v_a2), (6, .ref 101), (33, SL 6 cNode v_a1), (34, I (v_a1.length : Int))] [(101, .row 3 1 cI ((v_t52.set v_y54.left.toNat (w64 (v_y56 + 1))).set v_y54.right.toNat (w64 (v_y58 + 1))))]
                  refine nx_nil ?_
                  refine Says.ex (S' := [(35, I (w64 (v_t53 + 1))), (0, SL 6 cNode v_a1), (1, I v_a2), (6, .ref 101), (33, SL 6 cNode v_a1), (34, I (v_a1.length : Int))]) (O' := [(101, .row 3 1 cI ((v_t52.set v_y54.left.toNat (w64 (v_y56 + 1))).set v_y54.right.toNat (w64 (v_y58 + 1))))]) (says_pick [0, 2, 3, 4, 5, 6] [0] rfl rfl) ?_
                  refine ex_kx ?_
                  refine Says.kx (S' := [(0, SL 6 cNode v_a1), (1, I v_a2), (6, .ref 101), (33, SL 6 cNode v_a1), (34, I (v_a1.length : Int)), (35, I (w64 (v_t53 + 1)))]) (O' := [(101, .row 3 1 cI ((v_t52.set v_y54.left.toNat (w64 (v_y56 + 1))).set v_y54.right.toNat (w64 (v_y58 + 1))))]) (says_pick [1, 2, 3, 4, 5, 0] [0] rfl rfl) ?_
                  exact hK111 _ _ ⟨((v_t52.set v_y54.left.toNat (w64 (v_y56 + 1))).set v_y54.right.toNat (w64 (v_y58 + 1))), w64 (v_t53 + 1), h, rfl, rfl⟩
                · have h := ite_f hc h
                  refine cw_skip ?_
                  refine ex_bn ?_
                  refine ex_kx (hK114 _ _ ?_)
                  refine cw_region ?_
                  refine nx_o (op_add (.tmp 7 rfl) (Can.int _ _ _)) rfl ?_
                  refine nx_k [0, 1, 2, 3, 4, 5, 6, 7] (op_move (.tmp 0 rfl)) rfl rfl ?_
                  show Nx _ _ _ _ _ [(35, I (w64 (v_t53 + 1))), (65, I (w64 (v_t53 + 1))), (50, B (v_y54.feature != (-1))), (8, .ref 107), (0, SL 6 cNode v_a1), (1, I v_a2), (6, .ref 101), (33, SL 6 cNode v_a1), (34, I (v_a1.length : Int))] [(107, .var 32 [I v_y54.feature, I v_y54.cut, I v_y54.left, I v_y54.right, B v_y54.less, I v_y54.value]), (101, .row 3 1 cI v_t52)]
                  refine nx_nil ?_
                  refine Says.ex (S' := [(35, I (w64 (v_t53 + 1))), (0, SL 6 cNode v_a1), (1, I v_a2), (6, .ref 101), (33, SL 6 cNode v_a1), (34, I (v_a1.length : Int))]) (O' := [(101, .row 3 1 cI v_t52)]) (says_pick [0, 4, 5, 6, 7, 8] [1] rfl rfl) ?_
                  refine ex_kx ?_
                  refine Says.kx (S' := [(0, SL 6 cNode v_a1), (1, I v_a2), (6, .ref 101), (33, SL 6 cNode v_a1), (34, I (v_a1.length : Int)), (35, I (w64 (v_t53 + 1)))]) (O' := [(101, .row 3 1 cI v_t52)]) (says_pick [1, 2, 3, 4, 5, 0] [0] rfl rfl) ?_
                  exact hK111 _ _ ⟨v_t52, w64 (v_t53 + 1), h, rfl, rfl⟩
            · have h := ite_f hc h
              refine cw_exit ?_
              refine ex_te ?_
              refine ex_te ?_
              refine ex_be ?_
              refine ex_kx ?_
              refine Says.kx (S' := [(0, SL 6 cNode v_a1), (6, .ref 101)]) (O' := [(101, .row 3 1 cI v_t52)]) (says_pick [1, 3] [0] rfl rfl) ?_
              exact hK43 _ _ ⟨v_t52, h, rfl, rfl⟩

theorem f19_fn (N : Nat) (v_t1 : List Node) (r : Int × (Option Int)) (h : tree_Depth N v_t1 = some r) : Fn Go.Proofs.Try.prog 19 [SL 6 cNode v_t1] [] (.tup [I r.1, Er TE r.2]) [] := by
  unfold tree_Depth at h
  refine fn_intro [] fun19 rfl rfl (Nat.le_of_ble_eq_true rfl) rfl rfl (fun w G V => ?_)
  show Cw _ _ _ _ [(0, SL 6 cNode v_t1)] []
  refine cw_seq fun K1 hK1 => ?_
  refine cw_region ?_
  refine nx_o (op_assign (Can.int _ _ _)) rfl ?_
  refine nx_o (op_assign (Can.nilE _ TE)) rfl ?_
  refine nx_nil ?_
  refine Says.ex (S' := [(0, SL 6 cNode v_t1)]) (O' := []) (says_pick [2] [] rfl rfl) ?_
  refine ex_kx (hK1 _ _ ?_)
  refine cw_seq fun K2 hK2 => ?_
  refine cw_seq fun K3 hK3 => ?_
  refine cw_region ?_
  refine nx_o (op_move (.tmp 0 rfl)) rfl ?_
  obtain ⟨v_r2, hv_r2, h⟩ := bnd h
  refine nx_o (op_call0 (show Fn Go.Proofs.Try.prog 18 [SL 6 cNode v_t1, I 8] [] (.tup [I v_r2.1, Er TE v_r2.2]) [] from (f18_fn N v_t1 8 _ hv_r2)) c18 (.cons (.tmp 0 rfl) (.cons (Can.int _ _ _) .nil))) rfl ?_
  refine nx_o (op_move (.tmp 0 rfl)) rfl ?_
  refine nx_o (op_extract (.tmp 0 rfl) rfl) rfl ?_
  refine nx_o (op_extract (.tmp 1 rfl) rfl) rfl ?_
  refine nx_o (op_assign (.tmp 1 rfl)) rfl ?_
  refine nx_o (op_assign (.tmp 1 rfl)) rfl ?_
  refine nx_nil ?_
  refine Says.ex (S' := [(5, Er TE v_r2.2), (0, SL 6 cNode v_t1)]) (O' := []) (says_pick [0, 7] [] rfl rfl) ?_
  refine ex_kx (hK3 _ _ ?_)
  refine cw_seq fun K4 hK4 => ?_
  refine cw_region ?_
  refine nx_o (op_move (.tmp 0 rfl)) rfl ?_
  refine nx_o (op_neqNil (.tmp 0 rfl) u28) rfl ?_
  refine nx_nil ?_
  refine Says.ex (S' := [(12, B v_r2.2.isSome), (5, Er TE v_r2.2), (0, SL 6 cNode v_t1)]) (O' := []) (says_pick [0, 2, 3] [] rfl rfl) ?_
  refine ex_kx (hK4 _ _ ?_)
  refine cw_cond (b := v_r2.2.isSome) (.tmp 0 rfl) (fun hc => ?_) (fun hc => ?_)
  · have h := ite_t hc h
    refine cw_seq fun K5 hK5 => ?_
    refine cw_region ?_
    refine nx_o (op_move (.tmp 1 rfl)) rfl ?_
    refine nx_o (op_assign (Can.int _ _ _)) rfl ?_
    refine nx_o (op_assign (.tmp 1 rfl)) rfl ?_
    refine nx_nil ?_
    refine Says.ex (S' := [(3, Er TE v_r2.2), (2, I 0)]) (O' := []) (says_pick [0, 1] [] rfl rfl) ?_
    refine ex_kx (hK5 _ _ ?_)
    refine cw_ret ?_
    refine ex_tr ?_
    cases h
    refine Says.ex (S' := [(2, I 0), (3, Er TE v_r2.2)]) (O' := []) (says_pick [1, 0] [] rfl rfl) ?_
    exact ex_done (.inl rfl) rfl (fun a w G V hs _ hS => resM rfl (.tmp (.tmp 0 rfl) (.tmp (.tmp 1 rfl) .nil)) a w G V hs hS)
  · have h := ite_f hc h
    refine cw_skip ?_
    refine ex_kx (hK2 _ _ ?_)
    refine cw_seq fun K6 hK6 => ?_
    refine cw_region ?_
    refine nx_o (op_move (.tmp 2 rfl)) rfl ?_
    obtain ⟨v_r3, hv_r3, h⟩ := bnd h
    refine nx_o (op_call0 (show Fn Go.Proofs.Try.prog 59 [SL 6 cNode v_t1] [] (I v_r3) [] from (f59_fn N v_t1 _ hv_r3)) c59 (.cons (.tmp 0 rfl) .nil)) rfl ?_
    refine nx_o (op_assign (.tmp 0 rfl)) rfl ?_
    refine nx_o (op_assign (Can.nilE _ TE)) rfl ?_
    refine nx_nil ?_
    refine Says.ex (S' := [(3, Er TE none), (2, I v_r3)]) (O' := []) (says_pick [0, 1] [] rfl rfl) ?_
    refine ex_kx (hK6 _ _ ?_)
    refine cw_ret ?_
    cases h
    refine Says.ex (S' := [(2, I v_r3), (3, Er TE none)]) (O' := []) (says_pick [1, 0] [] rfl rfl) ?_
    exact ex_done (.inl rfl) rfl (fun a w G V hs _ hS => resM rfl (.tmp (.tmp 0 rfl) (.tmp (.tmp 1 rfl) .nil)) a w G V hs hS)

theorem f60_fn (N : Nat) (v_t1 : List Node) (v_r2 : List Int) (r : Option Int) (h : tree_Ready N v_t1 v_r2 = some r) : Fn Go.Proofs.Try.prog 60 [SL 6 cNode v_t1, SL 1 cI v_r2] [] (Er TE r) [] := by
  unfold tree_Ready at h
  refine fn_intro [] fun60 rfl rfl (Nat.le_of_ble_eq_true rfl) rfl rfl (fun w G V => ?_)
  show Cw _ _ _ _ [(0, SL 6 cNode v_t1), (1, SL 1 cI v_r2)] []
  refine cw_seq fun K1 hK1 => ?_
  refine cw_region ?_
  refine nx_o (op_assign (Can.nilE _ TE)) rfl ?_
  refine nx_nil ?_
  refine Says.ex (S' := [(0, SL 6 cNode v_t1), (1, SL 1 cI v_r2)]) (O' := []) (says_pick [1, 2] [] rfl rfl) ?_
  refine ex_kx (hK1 _ _ ?_)
  refine cw_seq fun K2 hK2 => ?_
  refine cw_seq fun K3 hK3 => ?_
  refine cw_region ?_
  refine nx_o (op_move (.tmp 1 rfl)) rfl ?_
  obtain ⟨v_r3, hv_r3, h⟩ := bnd h
  refine nx_o (op_call0 (show Fn Go.Proofs.Try.prog 41 [SL 1 cI v_r2] [] (Er TE v_r3) [] from (f41_fn N v_r2 _ hv_r3)) c41 (.cons (.tmp 0 rfl) .nil)) rfl ?_
  refine nx_o (op_assign (.tmp 0 rfl)) rfl ?_
  refine nx_nil ?_
  refine Says.ex (S' := [(5, Er TE v_r3), (0, SL 6 cNode v_t1), (1, SL 1 cI v_r2)]) (O' := []) (says_pick [0, 3, 4] [] rfl rfl) ?_
  refine ex_kx (hK3 _ _ ?_)
  refine cw_seq fun K4 hK4 => ?_
  refine cw_region ?_
  refine nx_o (op_move (.tmp 0 rfl)) rfl ?_
  refine nx_o (op_neqNil (.tmp 0 rfl) u28) rfl ?_
  refine nx_nil ?_
  refine Says.ex (S' := [(11, B v_r3.isSome), (5, Er TE v_r3), (0, SL 6 cNode v_t1), (1, SL 1 cI v_r2)]) (O' := []) (says_pick [0, 2, 3, 4] [] rfl rfl) ?_
  refine ex_kx (hK4 _ _ ?_)
  refine cw_cond (b := v_r3.isSome) (.tmp 0 rfl) (fun hc => ?_) (fun hc => ?_)
  · have h := ite_t hc h
    refine cw_seq fun K5 hK5 => ?_
    refine cw_region ?_
    refine nx_o (op_move (.tmp 1 rfl)) rfl ?_
    refine nx_o (op_assign (.tmp 0 rfl)) rfl ?_
    refine nx_nil ?_
    refine Says.ex (S' := [(4, Er TE v_r3)]) (O' := []) (says_pick [0] [] rfl rfl) ?_
    refine ex_kx (hK5 _ _ ?_)
    refine cw_ret ?_
    refine ex_tr ?_
    cases h
    exact ex_done (.inl rfl) rfl (fun a w G V hs _ hS => res1 rfl (.tmp 0 rfl) a w G V hS)
  · have h := ite_f hc h
    refine cw_skip ?_
    refine ex_kx (hK2 _ _ ?_)
    refine cw_seq fun K6 hK6 => ?_
    refine cw_region ?_
    refine nx_o (op_move (.tmp 2 rfl)) rfl ?_
    refine nx_o (op_move (.tmp 4 rfl)) rfl ?_
    refine nx_o (op_len (.tmp 0 rfl) u23) rfl ?_
    obtain ⟨v_r4, hv_r4, h⟩ := bnd h
    refine nx_o (op_call0 (show Fn Go.Proofs.Try.prog 18 [SL 6 cNode v_t1, I (v_r2.length : Int)] [] (.tup [I v_r4.1, Er TE v_r4.2]) [] from (f18_fn N v_t1 (v_r2.length : Int) _ hv_r4)) c18 (.cons (.tmp 2 rfl) (.cons (.tmp 0 rfl) .nil))) rfl ?_
    refine nx_o (op_move (.tmp 0 rfl)) rfl ?_
    refine nx_o (op_extract (.tmp 0 rfl) rfl) rfl ?_
    refine nx_o (op_extract (.tmp 1 rfl) rfl) rfl ?_
    refine nx_o (op_assign (.tmp 1 rfl)) rfl ?_
    refine nx_o (op_assign (.tmp 1 rfl)) rfl ?_
    refine nx_nil ?_
    refine Says.ex (S' := [(7, Er TE v_r4.2)]) (O' := []) (says_pick [0] [] rfl rfl) ?_
    refine ex_kx (hK6 _ _ ?_)
    refine cw_seq fun K7 hK7 => ?_
    refine cw_region ?_
    refine nx_o (op_move (.tmp 0 rfl)) rfl ?_
    refine nx_o (op_assign (.tmp 0 rfl)) rfl ?_
    refine nx_nil ?_
    refine Says.ex (S' := [(4, Er TE v_r4.2)]) (O' := []) (says_pick [0] [] rfl rfl) ?_
    refine ex_kx (hK7 _ _ ?_)
    refine cw_ret ?_
    cases h
    exact ex_done (.inl rfl) rfl (fun a w G V hs _ hS => res1 rfl (.tmp 0 rfl) a w G V hS)

theorem f105_fn (N : Nat) (v_n1 : Node) (v_c2 : Int) (r : Int) (h : tree_Next N v_n1 v_c2 = some r) : Fn Go.Proofs.Try.prog 105 [.agg (cNode v_n1), I v_c2] [] (I r) [] := by
  unfold tree_Next at h
  refine fn_intro [] fun105 rfl rfl (Nat.le_of_ble_eq_true rfl) rfl rfl (fun w G V => ?_)
  show Cw _ _ _ _ [(0, .agg (cNode v_n1)), (1, I v_c2)] []
  refine cw_seq fun K1 hK1 => ?_
  refine cw_region ?_
  refine nx_o (op_box (its := (cNode v_n1)) (.agg (.tmp 0 rfl))) rfl ?_
  refine nx_o (op_assign (Can.int _ _ _)) rfl ?_
  refine nx_nil ?_
  refine Says.ex (S' := [(2, .ptr (cNode v_n1)), (1, I v_c2)]) (O' := []) (says_pick [1, 3] [] rfl rfl) ?_
  refine ex_kx (hK1 _ _ ?_)
  refine cw_seq fun K2 hK2 => ?_
  refine cw_seq fun K3 hK3 => ?_
  refine cw_region ?_
  refine nx_o (op_move (.tmp 1 rfl)) rfl ?_
  refine nx_o (op_eql (.tmp 0 rfl) (Can.int _ _ _)) rfl ?_
  refine nx_o (op_move (.tmp 0 rfl)) rfl ?_
  refine nx_g (opy_guard (cc := (v_c2 == (-1125899906842624))) (.plain 0 rfl) rfl rfl (fun hg => (op_field (.tmp 3 rfl) o32_4))) rfl ?_
  refine nx_g (opy_guard (cc := (v_c2 == (-1125899906842624))) (.plain 1 rfl) rfl rfl (fun hg => (op_load1 (.cd 0 rfl hg) a4))) rfl ?_
  refine nx_o (op_and (.tmp 2 rfl) (fun hp => (.cd 0 rfl hp))) rfl ?_
  refine nx_o (op_move (.tmp 0 rfl)) rfl ?_
  refine nx_g (opy_guard (cc := (!((v_c2 == (-1125899906842624)) && v_n1.less))) (.plain 0 rfl) rfl rfl (fun hg => (op_move (.tmp 8 rfl)))) rfl ?_
  refine nx_g (opy_guard (cc := (!((v_c2 == (-1125899906842624)) && v_n1.less))) (.plain 1 rfl) rfl rfl (fun hg => (op_neq (.cd 0 rfl hg) (Can.int _ _ _)))) rfl ?_
  refine nx_g (opy_guard (cc := (!((v_c2 == (-1125899906842624)) && v_n1.less))) (.plain 2 rfl) rfl rfl (fun hg => (op_move (.cd 0 rfl hg)))) rfl ?_
  refine nx_g (opy_guard (cc := ((!((v_c2 == (-1125899906842624)) && v_n1.less)) && (v_c2 != (-1125899906842624)))) (.cond 0 rfl) rfl rfl (fun hg => (op_move (.tmp 11 rfl)))) rfl ?_
  refine nx_g (opy_guard (cc := ((!((v_c2 == (-1125899906842624)) && v_n1.less)) && (v_c2 != (-1125899906842624)))) (.cond 1 rfl) rfl rfl (fun hg => (op_field (.tmp 11 rfl) o32_1))) rfl ?_
  refine nx_g (opy_guard (cc := ((!((v_c2 == (-1125899906842624)) && v_n1.less)) && (v_c2 != (-1125899906842624)))) (.cond 2 rfl) rfl rfl (fun hg => (op_load1 (.cd 0 rfl hg) a3))) rfl ?_
  refine nx_g (opy_guard (cc := ((!((v_c2 == (-1125899906842624)) && v_n1.less)) && (v_c2 != (-1125899906842624)))) (.cond 3 rfl) rfl rfl (fun hg => (op_lss (.cd 2 rfl hg) (.cd 0 rfl hg)))) rfl ?_
  refine nx_g (opy_guard (cc := (!((v_c2 == (-1125899906842624)) && v_n1.less))) (.plain 7 rfl) rfl rfl (fun hg => (op_and (.cd 4 rfl hg) (fun hp => (.cd 0 rfl (and_t hg hp)))))) rfl ?_
  refine nx_o (op_or (.tmp 8 rfl) (fun hp => (.cd 0 rfl (not_t hp)))) rfl ?_
  refine nx_nil ?_
  refine Says.ex (S' := [(20, B (((v_c2 == (-1125899906842624)) && v_n1.less) || ((v_c2 != (-1125899906842624)) && (decide (v_c2 < v_n1.cut))))), (2, .ptr (cNode v_n1))]) (O' := []) (says_pick [0, 16] [] rfl rfl) ?_
  refine ex_kx (hK3 _ _ ?_)
  refine cw_cond (b := (((v_c2 == (-1125899906842624)) && v_n1.less) || ((v_c2 != (-1125899906842624)) && (decide (v_c2 < v_n1.cut))))) (.tmp 0 rfl) (fun hc => ?_) (fun hc => ?_)
  · have h := ite_t hc h
    refine cw_seq fun K4 hK4 => ?_
    refine cw_region ?_
    refine nx_o (op_field (.tmp 1 rfl) o32_2) rfl ?_
    refine nx_o (op_load1 (.tmp 0 rfl) a3) rfl ?_
    refine nx_o (op_assign (.tmp 0 rfl)) rfl ?_
    refine nx_nil ?_
    refine Says.ex (S' := [(4, I v_n1.left)]) (O' := []) (says_pick [0] [] rfl rfl) ?_
    refine ex_kx (hK4 _ _ ?_)
    refine cw_ret ?_
    refine ex_tr ?_
    cases h
    exact ex_done (.inl rfl) rfl (fun a w G V hs _ hS => res1 rfl (.tmp 0 rfl) a w G V hS)
  · have h := ite_f hc h
    refine cw_skip ?_
    refine ex_kx (hK2 _ _ ?_)
    refine cw_seq fun K5 hK5 => ?_
    refine cw_region ?_
    refine nx_o (op_field (.tmp 1 rfl) o32_3) rfl ?_
    refine nx_o (op_load1 (.tmp 0 rfl) a3) rfl ?_
    refine nx_o (op_assign (.tmp 0 rfl)) rfl ?_
    refine nx_nil ?_
    refine Says.ex (S' := [(4, I v_n1.right)]) (O' := []) (says_pick [0] [] rfl rfl) ?_
    refine ex_kx (hK5 _ _ ?_)
    refine cw_ret ?_
    cases h
    exact ex_done (.inl rfl) rfl (fun a w G V hs _ hS => res1 rfl (.tmp 0 rfl) a w G V hS)

theorem f61_fn (N : Nat) (v_t1 : List Node) (v_row2 : List Int) (r : Int) (h : tree_Walk N v_t1 v_row2 = some r) : Fn Go.Proofs.Try.prog 61 [SL 6 cNode v_t1, SL 1 cI v_row2] [] (I r) [] := by
  unfold tree_Walk at h
  refine fn_intro [] fun61 rfl rfl (Nat.le_of_ble_eq_true rfl) rfl rfl (fun w G V => ?_)
  show Cw _ _ _ _ [(0, SL 6 cNode v_t1), (1, SL 1 cI v_row2)] []
  refine cw_seq fun K1 hK1 => ?_
  refine cw_region ?_
  refine nx_o (op_assign (Can.int _ _ _)) rfl ?_
  refine nx_nil ?_
  refine Says.ex (S' := [(0, SL 6 cNode v_t1), (1, SL 1 cI v_row2)]) (O' := []) (says_pick [1, 2] [] rfl rfl) ?_
  refine ex_kx (hK1 _ _ ?_)
  refine cw_seq fun K2 hK2 => ?_
  refine cw_region ?_
  refine nx_o (op_assign (Can.int _ _ _)) rfl ?_
  refine nx_nil ?_
  refine ex_kx (hK2 _ _ ?_)
  refine cw_join (fun S O => ∃ (v_i20 : Int), tree_Walk_j1 N v_i20 = some r ∧ S = [(5, I v_i20)] ∧ O = []) ?_ (fun K11 hK11 => ?_)
  · rintro S O ⟨v_i20, h, rfl, rfl⟩
    unfold tree_Walk_j1 at h
    refine cw_seq fun K12 hK12 => ?_
    refine cw_region ?_
    refine nx_o (op_move (.tmp 0 rfl)) rfl ?_
    refine nx_o (op_assign (.tmp 0 rfl)) rfl ?_
    refine nx_nil ?_
    refine Says.ex (S' := [(4, I v_i20)]) (O' := []) (says_pick [0] [] rfl rfl) ?_
    refine ex_kx (hK12 _ _ ?_)
    refine cw_ret ?_
    cases h
    exact ex_done (.inl rfl) rfl (fun a w G V hs _ hS => res1 rfl (.tmp 0 rfl) a w G V hS)
  ·
    refine cw_block ?_
    refine Says.cw (S' := [(0, SL 6 cNode v_t1), (1, SL 1 cI v_row2), (5, I 0)]) (O' := []) (says_pick [1, 2, 0] [] rfl rfl) ?_
    refine cw_loopJ (fun n S O => ∃ (v_i32 : Int), tree_Walk_l1 N v_t1 v_row2 n v_i32 = some r ∧ S = [(0, SL 6 cNode v_t1), (1, SL 1 cI v_row2), (5, I v_i32)] ∧ O = []) ?_ ?_ N ⟨0, h, rfl, rfl⟩
    · rintro S O ⟨v_i32, h, -, -⟩
      simp [tree_Walk_l1] at h
    · rintro n_1 S O ⟨v_i32, h, rfl, rfl⟩ K17 hK17
      rw [tree_Walk_l1] at h
      refine cw_seq fun K18 hK18 => ?_
      refine cw_seq fun K19 hK19 => ?_
      refine cw_region ?_
      refine nx_o (op_move (.tmp 0 rfl)) rfl ?_
      refine nx_o (op_move (.tmp 3 rfl)) rfl ?_
      obtain ⟨v_y33, hv_y33, h⟩ := bnd h
      refine nx_o (op_indexX hv_y33 (.tmp 1 rfl) (.tmp 0 rfl) u26 s32) rfl ?_
      refine nx_o (op_field (.tmp 0 rfl) o32_0) rfl ?_
      refine nx_o (op_load1 (.tmp 0 rfl) a3) rfl ?_
      refine nx_o (op_neq (.tmp 0 rfl) (Can.int _ _ _)) rfl ?_
      refine nx_nil ?_
      refine Says.ex (S' := [(11, B (v_y33.feature != (-1))), (0, SL 6 cNode v_t1), (1, SL 1 cI v_row2), (5, I v_i32)]) (O' := []) (says_pick [0, 6, 7, 8] [] rfl rfl) ?_
      refine ex_kx (hK19 _ _ ?_)
      refine cw_cond (b := (v_y33.feature != (-1))) (.tmp 0 rfl) (fun hc => ?_) (fun hc => ?_)
      · have h := ite_t hc h
        refine cw_skip ?_
        refine ex_kx (hK18 _ _ ?_)
        refine cw_block ?_
        obtain ⟨v_y34, hv_y34, h⟩ := bnd h
        obtain ⟨v_y35, hv_y35, h⟩ := bnd h
        obtain ⟨v_y36, hv_y36, h⟩ := bnd h
        obtain ⟨v_r37, hv_r37, h⟩ := bnd h
        refine cw_draw (Plan.mk [13] [[], [], [0, 1], [0, 1, 2], [], [], [], [5, 6], [5, 6, 7], [5, 6, 7, 8], [4, 5, 6, 7, 8, 9], [4, 5, 6, 7, 8, 9, 10], [0, 1, 2, 3, 4, 5, 6, 7, 8, 9, 10, 11], [0, 1, 2, 3, 4, 5, 6, 7, 8, 9, 10, 11, 12]] [[(11, B (v_y33.feature != (-1))), (0, SL 6 cNode v_t1), (1, SL 1 cI v_row2), (5, I v_i32)], [(5, I v_r37), (11, B (v_y33.feature != (-1))), (0, SL 6 cNode v_t1), (1, SL 1 cI v_row2)]] [[], []] [(12, SL 6 cNode v_t1), (13, I v_i32), (14, .ptr (cNode v_y34)), (15, .agg (cNode v_y34)), (16, SL 1 cI v_row2), (17, SL 6 cNode v_t1), (18, I v_i32), (19, .ptr (cNode v_y35)), (20, .ptr ((cNode v_y35).drop 0)), (21, I v_y35.feature), (22, .ptr (cI v_y36)), (23, I v_y36), (24, I v_r37), (0, .raw undef)]) mixed rfl rfl rfl rfl ?_ ?_ ?_
        · exact (And.intro (fun _ => (And.intro (show OpY _ _ _ [(11, B (v_y33.feature != (-1))), (0, SL 6 cNode v_t1), (1, SL 1 cI v_row2), (5, I v_i32)] [] _ (SL 6 cNode v_t1) [] allp from (OpX.y (op_move (.tmp 1 rfl)) rfl)) trivial)) (And.intro (fun _ => (And.intro (show OpY _ _ _ [(11, B (v_y33.feature != (-1))), (0, SL 6 cNode v_t1), (1, SL 1 cI v_row2), (5, I v_i32)] [] _ (I v_i32) [] allp from (OpX.y (op_move (.tmp 3 rfl)) rfl)) trivial)) (And.intro (fun _ => (And.intro (show OpY _ _ _ [(11, B (v_y33.feature != (-1))), (0, SL 6 cNode v_t1), (1, SL 1 cI v_row2), (5, I v_i32), (12, SL 6 cNode v_t1), (13, I v_i32)] [] _ (.ptr (cNode v_y34)) [] allp from (OpX.y (op_indexX hv_y34 (.tmp 4 rfl) (.tmp 5 rfl) u26 s32) rfl)) trivial)) (And.intro (fun _ => (And.intro (show OpY _ _ _ [(11, B (v_y33.feature != (-1))), (0, SL 6 cNode v_t1), (1, SL 1 cI v_row2), (5, I v_i32), (12, SL 6 cNode v_t1), (13, I v_i32), (14, .ptr (cNode v_y34))] [] _ (.agg (cNode v_y34)) [] allp from (OpX.y (op_loadA (cNode v_y34) (.tmp 6 rfl) a32 s32 rfl) rfl)) trivial)) (And.intro (fun _ => (And.intro (show OpY _ _ _ [(11, B (v_y33.feature != (-1))), (0, SL 6 cNode v_t1), (1, SL 1 cI v_row2), (5, I v_i32)] [] _ (SL 1 cI v_row2) [] allp from (OpX.y (op_move (.tmp 2 rfl)) rfl)) trivial)) (And.intro (fun _ => (And.intro (show OpY _ _ _ [(11, B (v_y33.feature != (-1))), (0, SL 6 cNode v_t1), (1, SL 1 cI v_row2), (5, I v_i32)] [] _ (SL 6 cNode v_t1) [] allp from (OpX.y (op_move (.tmp 1 rfl)) rfl)) trivial)) (And.intro (fun _ => (And.intro (show OpY _ _ _ [(11, B (v_y33.feature != (-1))), (0, SL 6 cNode v_t1), (1, SL 1 cI v_row2), (5, I v_i32)] [] _ (I v_i32) [] allp from (OpX.y (op_move (.tmp 3 rfl)) rfl)) trivial)) (And.intro (fun _ => (And.intro (show OpY _ _ _ [(11, B (v_y33.feature != (-1))), (0, SL 6 cNode v_t1), (1, SL 1 cI v_row2), (5, I v_i32), (17, SL 6 cNode v_t1), (18, I v_i32)] [] _ (.ptr (cNode v_y35)) [] allp from (OpX.y (op_indexX hv_y35 (.tmp 4 rfl) (.tmp 5 rfl) u26 s32) rfl)) trivial)) (And.intro (fun _ => (And.intro (show OpY _ _ _ [(11, B (v_y33.feature != (-1))), (0, SL 6 cNode v_t1), (1, SL 1 cI v_row2), (5, I v_i32), (17, SL 6 cNode v_t1), (18, I v_i32), (19, .ptr (cNode v_y35))] [] _ (.ptr ((cNode v_y35).drop 0)) [] allp from (OpX.y (op_field (.tmp 6 rfl) o32_0) rfl)) trivial)) (And.intro (fun _ => (And.intro (show OpY _ _ _ [(11, B (v_y33.feature != (-1))), (0, SL 6 cNode v_t1), (1, SL 1 cI v_row2), (5, I v_i32), (17, SL 6 cNode v_t1), (18, I v_i32), (19, .ptr (cNode v_y35)), (20, .ptr ((cNode v_y35).drop 0))] [] _ (I v_y35.feature) [] allp from (OpX.y (op_load1 (.tmp 7 rfl) a3) rfl)) trivial)) (And.intro (fun _ => (And.intro (show OpY _ _ _ [(11, B (v_y33.feature != (-1))), (0, SL 6 cNode v_t1), (1, SL 1 cI v_row2), (5, I v_i32), (16, SL 1 cI v_row2), (17, SL 6 cNode v_t1), (18, I v_i32), (19, .ptr (cNode v_y35)), (20, .ptr ((cNode v_y35).drop 0)), (21, I v_y35.feature)] [] _ (.ptr (cI v_y36)) [] allp from (OpX.y (op_indexX hv_y36 (.tmp 4 rfl) (.tmp 9 rfl) u23 s3) rfl)) trivial)) (And.intro (fun _ => (And.intro (show OpY _ _ _ [(11, B (v_y33.feature != (-1))), (0, SL 6 cNode v_t1), (1, SL 1 cI v_row2), (5, I v_i32), (16, SL 1 cI v_row2), (17, SL 6 cNode v_t1), (18, I v_i32), (19, .ptr (cNode v_y35)), (20, .ptr ((cNode v_y35).drop 0)), (21, I v_y35.feature), (22, .ptr (cI v_y36))] [] _ (I v_y36) [] allp from (OpX.y (op_load1 (.tmp 10 rfl) a3) rfl)) trivial)) (And.intro (fun _ => (And.intro (show OpY _ _ _ [(11, B (v_y33.feature != (-1))), (0, SL 6 cNode v_t1), (1, SL 1 cI v_row2), (5, I v_i32), (12, SL 6 cNode v_t1), (13, I v_i32), (14, .ptr (cNode v_y34)), (15, .agg (cNode v_y34)), (16, SL 1 cI v_row2), (17, SL 6 cNode v_t1), (18, I v_i32), (19, .ptr (cNode v_y35)), (20, .ptr ((cNode v_y35).drop 0)), (21, I v_y35.feature), (22, .ptr (cI v_y36)), (23, I v_y36)] [] _ (I v_r37) [] allp from (OpX.y (op_call0 (show Fn Go.Proofs.Try.prog 105 [.agg (cNode v_y34), I v_y36] [] (I v_r37) [] from (f105_fn N v_y34 v_y36 _ hv_r37)) c105 (.cons (.tmp 7 rfl) (.cons (.tmp 15 rfl) .nil))) rfl)) trivial)) (And.intro (fun hn => (Bool.false_ne_true (hn.symm.trans rfl)).elim) trivial))))))))))))))
        · exact (And.intro (fun o ho => by obtain rfl := Option.some.inj ho; exact ⟨⟨_, (I v_r37), [0, 1, 2], (OpY.to (show OpY _ _ _ [(11, B (v_y33.feature != (-1))), (0, SL 6 cNode v_t1), (1, SL 1 cI v_row2), (5, I v_i32), (12, SL 6 cNode v_t1), (13, I v_i32), (14, .ptr (cNode v_y34)), (15, .agg (cNode v_y34)), (16, SL 1 cI v_row2), (17, SL 6 cNode v_t1), (18, I v_i32), (19, .ptr (cNode v_y35)), (20, .ptr ((cNode v_y35).drop 0)), (21, I v_y35.feature), (22, .ptr (cI v_y36)), (23, I v_y36), (24, I v_r37)] [] _ (I v_r37) _ _ from (OpX.y (op_assign (.tmp 16 rfl)) rfl)) rfl), rfl, rfl⟩⟩) trivial)
        show Ex _ _ _ [(5, I v_r37), (11, B (v_y33.feature != (-1))), (0, SL 6 cNode v_t1), (1, SL 1 cI v_row2), (12, SL 6 cNode v_t1), (13, I v_i32), (14, .ptr (cNode v_y34)), (15, .agg (cNode v_y34)), (16, SL 1 cI v_row2), (17, SL 6 cNode v_t1), (18, I v_i32), (19, .ptr (cNode v_y35)), (20, .ptr ((cNode v_y35).drop 0)), (21, I v_y35.feature), (22, .ptr (cI v_y36)), (23, I v_y36), (24, I v_r37)] []
        refine Says.ex (S' := [(5, I v_r37), (0, SL 6 cNode v_t1), (1, SL 1 cI v_row2)]) (O' := []) (says_pick [0, 2, 3] [] rfl rfl) ?_
        refine ex_bn ?_
        refine ex_kx ?_
        refine Says.kx (S' := [(0, SL 6 cNode v_t1), (1, SL 1 cI v_row2), (5, I v_r37)]) (O' := []) (says_pick [1, 2, 0] [] rfl rfl) ?_
        exact hK17 _ _ ⟨v_r37, h, rfl, rfl⟩
      · have h := ite_f hc h
        refine cw_exit ?_
        refine ex_te ?_
        refine ex_te ?_
        refine ex_be ?_
        refine ex_kx ?_
        refine Says.kx (S' := [(5, I v_i32)]) (O' := []) (says_pick [3] [] rfl rfl) ?_
        exact hK11 _ _ ⟨v_i32, h, rfl, rfl⟩

theorem f20_fn (N : Nat) (v_t1 : List Node) (v_r2 : List Int) (r : Int × (Option Int)) (h : tree_Leaf N v_t1 v_r2 = some r) : Fn Go.Proofs.Try.prog 20 [SL 6 cNode v_t1, SL 1 cI v_r2] [] (.tup [I r.1, Er TE r.2]) [] := by
  unfold tree_Leaf at h
  refine fn_intro [] fun20 rfl rfl (Nat.le_of_ble_eq_true rfl) rfl rfl (fun w G V => ?_)
  show Cw _ _ _ _ [(0, SL 6 cNode v_t1), (1, SL 1 cI v_r2)] []
  refine cw_seq fun K1 hK1 => ?_
  refine cw_region ?_
  refine nx_o (op_assign (Can.int _ _ _)) rfl ?_
  refine nx_o (op_assign (Can.nilE _ TE)) rfl ?_
  refine nx_nil ?_
  refine Says.ex (S' := [(0, SL 6 cNode v_t1), (1, SL 1 cI v_r2)]) (O' := []) (says_pick [2, 3] [] rfl rfl) ?_
  refine ex_kx (hK1 _ _ ?_)
  refine cw_seq fun K2 hK2 => ?_
  refine cw_seq fun K3 hK3 => ?_
  refine cw_region ?_
  refine nx_o (op_move (.tmp 0 rfl)) rfl ?_
  refine nx_o (op_move (.tmp 2 rfl)) rfl ?_
  obtain ⟨v_r3, hv_r3, h⟩ := bnd h
  refine nx_o (op_call0 (show Fn Go.Proofs.Try.prog 60 [SL 6 cNode v_t1, SL 1 cI v_r2] [] (Er TE v_r3) [] from (f60_fn N v_t1 v_r2 _ hv_r3)) c60 (.cons (.tmp 1 rfl) (.cons (.tmp 0 rfl) .nil))) rfl ?_
  refine nx_o (op_assign (.tmp 0 rfl)) rfl ?_
  refine nx_nil ?_
  refine Says.ex (S' := [(6, Er TE v_r3), (0, SL 6 cNode v_t1), (1, SL 1 cI v_r2)]) (O' := []) (says_pick [0, 4, 5] [] rfl rfl) ?_
  refine ex_kx (hK3 _ _ ?_)
  refine cw_seq fun K4 hK4 => ?_
  refine cw_region ?_
  refine nx_o (op_move (.tmp 0 rfl)) rfl ?_
  refine nx_o (op_neqNil (.tmp 0 rfl) u28) rfl ?_
  refine nx_nil ?_
  refine Says.ex (S' := [(11, B v_r3.isSome), (6, Er TE v_r3), (0, SL 6 cNode v_t1), (1, SL 1 cI v_r2)]) (O' := []) (says_pick [0, 2, 3, 4] [] rfl rfl) ?_
  refine ex_kx (hK4 _ _ ?_)
  refine cw_cond (b := v_r3.isSome) (.tmp 0 rfl) (fun hc => ?_) (fun hc => ?_)
  · have h := ite_t hc h
    refine cw_seq fun K5 hK5 => ?_
    refine cw_region ?_
    refine nx_o (op_move (.tmp 1 rfl)) rfl ?_
    refine nx_o (op_assign (Can.int _ _ _)) rfl ?_
    refine nx_o (op_assign (.tmp 1 rfl)) rfl ?_
    refine nx_nil ?_
    refine Says.ex (S' := [(5, Er TE v_r3), (4, I 0)]) (O' := []) (says_pick [0, 1] [] rfl rfl) ?_
    refine ex_kx (hK5 _ _ ?_)
    refine cw_ret ?_
    refine ex_tr ?_
    cases h
    refine Says.ex (S' := [(4, I 0), (5, Er TE v_r3)]) (O' := []) (says_pick [1, 0] [] rfl rfl) ?_
    exact ex_done (.inl rfl) rfl (fun a w G V hs _ hS => resM rfl (.tmp (.tmp 0 rfl) (.tmp (.tmp 1 rfl) .nil)) a w G V hs hS)
  · have h := ite_f hc h
    refine cw_skip ?_
    refine ex_kx (hK2 _ _ ?_)
    refine cw_seq fun K6 hK6 => ?_
    refine cw_region ?_
    refine nx_o (op_move (.tmp 2 rfl)) rfl ?_
    refine nx_o (op_move (.tmp 4 rfl)) rfl ?_
    obtain ⟨v_r4, hv_r4, h⟩ := bnd h
    refine nx_o (op_call0 (show Fn Go.Proofs.Try.prog 61 [SL 6 cNode v_t1, SL 1 cI v_r2] [] (I v_r4) [] from (f61_fn N v_t1 v_r2 _ hv_r4)) c61 (.cons (.tmp 1 rfl) (.cons (.tmp 0 rfl) .nil))) rfl ?_
    refine nx_o (op_assign (.tmp 0 rfl)) rfl ?_
    refine nx_o (op_assign (Can.nilE _ TE)) rfl ?_
    refine nx_nil ?_
    refine Says.ex (S' := [(5, Er TE none), (4, I v_r4)]) (O' := []) (says_pick [0, 1] [] rfl rfl) ?_
    refine ex_kx (hK6 _ _ ?_)
    refine cw_ret ?_
    cases h
    refine Says.ex (S' := [(4, I v_r4), (5, Er TE none)]) (O' := []) (says_pick [1, 0] [] rfl rfl) ?_
    exact ex_done (.inl rfl) rfl (fun a w G V hs _ hS => resM rfl (.tmp (.tmp 0 rfl) (.tmp (.tmp 1 rfl) .nil)) a w G V hs hS)

theorem f47_fn (N : Nat) (v_t1 : List Node) (v_l2 : List Sample) (r : Option Int) (h : grow_Ready N v_t1 v_l2 = some r) : Fn Go.Proofs.Try.prog 47 [SL 6 cNode v_t1, SL 2 cSample v_l2] [] (Er TE r) [] := by
  unfold grow_Ready at h
  refine fn_intro [] fun47 rfl rfl (Nat.le_of_ble_eq_true rfl) rfl rfl (fun w G V => ?_)
  show Cw _ _ _ _ [(0, SL 6 cNode v_t1), (1, SL 2 cSample v_l2)] []
  refine cw_seq fun K1 hK1 => ?_
  refine cw_region ?_
  refine nx_o (op_assign (Can.nilE _ TE)) rfl ?_
  refine nx_nil ?_
  refine Says.ex (S' := [(0, SL 6 cNode v_t1), (1, SL 2 cSample v_l2)]) (O' := []) (says_pick [1, 2] [] rfl rfl) ?_
  refine ex_kx (hK1 _ _ ?_)
  refine cw_seq fun K2 hK2 => ?_
  refine cw_seq fun K3 hK3 => ?_
  refine cw_region ?_
  refine nx_o (op_move (.tmp 1 rfl)) rfl ?_
  refine nx_o (op_len (.tmp 0 rfl) u22) rfl ?_
  refine nx_o (op_eql (.tmp 0 rfl) (Can.int _ _ _)) rfl ?_
  refine nx_nil ?_
  refine Says.ex (S' := [(12, B ((v_l2.length : Int) == 0)), (0, SL 6 cNode v_t1), (1, SL 2 cSample v_l2)]) (O' := []) (says_pick [0, 3, 4] [] rfl rfl) ?_
  refine ex_kx (hK3 _ _ ?_)
  refine cw_cond (b := ((v_l2.length : Int) == 0)) (.tmp 0 rfl) (fun hc => ?_) (fun hc => ?_)
  · have h := ite_t hc h
    refine cw_seq fun K4 hK4 => ?_
    refine cw_region ?_
    refine nx_o (op_mkErr (Can.int _ _ _) u95 (fun _ h => by cases h)) rfl ?_
    refine nx_o (op_assign (.tmp 0 rfl)) rfl ?_
    refine nx_nil ?_
    refine Says.ex (S' := [(4, Er TE (some 5))]) (O' := []) (says_pick [0] [] rfl rfl) ?_
    refine ex_kx (hK4 _ _ ?_)
    refine cw_ret ?_
    refine ex_tr ?_
    cases h
    exact ex_done (.inl rfl) rfl (fun a w G V hs _ hS => res1 rfl (.tmp 0 rfl) a w G V hS)
  · have h := ite_f hc h
    refine cw_skip ?_
    refine ex_kx (hK2 _ _ ?_)
    refine cw_seq fun K5 hK5 => ?_
    refine cw_region ?_
    refine nx_o (op_move (.tmp 2 rfl)) rfl ?_
    obtain ⟨v_y3, hv_y3, h⟩ := bnd h
    refine nx_o (op_indexX hv_y3 (.tmp 0 rfl) (Can.int _ _ _) u22 s25) rfl ?_
    refine nx_o (op_field (.tmp 0 rfl) o25_0) rfl ?_
    refine nx_o (op_load1 (.tmp 0 rfl) a23) rfl ?_
    refine nx_o (op_len (.tmp 0 rfl) u23) rfl ?_
    refine nx_o (op_assign (.tmp 0 rfl)) rfl ?_
    refine nx_nil ?_
    refine Says.ex (S' := [(5, I (v_y3.row.length : Int)), (0, SL 6 cNode v_t1), (1, SL 2 cSample v_l2)]) (O' := []) (says_pick [0, 7, 8] [] rfl rfl) ?_
    refine ex_kx (hK5 _ _ ?_)
    refine cw_seq fun K6 hK6 => ?_
    refine cw_seq fun K7 hK7 => ?_
    refine cw_region ?_
    refine nx_o (op_move (.tmp 1 rfl)) rfl ?_
    refine nx_o (op_move (.tmp 1 rfl)) rfl ?_
    obtain ⟨v_r4, hv_r4, h⟩ := bnd h
    refine nx_o (op_call0 (show Fn Go.Proofs.Try.prog 18 [SL 6 cNode v_t1, I (v_y3.row.length : Int)] [] (.tup [I v_r4.1, Er TE v_r4.2]) [] from (f18_fn N v_t1 (v_y3.row.length : Int) _ hv_r4)) c18 (.cons (.tmp 1 rfl) (.cons (.tmp 0 rfl) .nil))) rfl ?_
    refine nx_o (op_move (.tmp 0 rfl)) rfl ?_
    refine nx_o (op_extract (.tmp 0 rfl) rfl) rfl ?_
    refine nx_o (op_extract (.tmp 1 rfl) rfl) rfl ?_
    refine nx_o (op_assign (.tmp 1 rfl)) rfl ?_
    refine nx_o (op_assign (.tmp 1 rfl)) rfl ?_
    refine nx_nil ?_
    refine Says.ex (S' := [(7, Er TE v_r4.2), (5, I (v_y3.row.length : Int)), (1, SL 2 cSample v_l2)]) (O' := []) (says_pick [0, 8, 10] [] rfl rfl) ?_
    refine ex_kx (hK7 _ _ ?_)
    refine cw_seq fun K8 hK8 => ?_
    refine cw_region ?_
    refine nx_o (op_move (.tmp 0 rfl)) rfl ?_
    refine nx_o (op_neqNil (.tmp 0 rfl) u28) rfl ?_
    refine nx_nil ?_
    refine Says.ex (S' := [(26, B v_r4.2.isSome), (7, Er TE v_r4.2), (5, I (v_y3.row.length : Int)), (1, SL 2 cSample v_l2)]) (O' := []) (says_pick [0, 2, 3, 4] [] rfl rfl) ?_
    refine ex_kx (hK8 _ _ ?_)
    refine cw_cond (b := v_r4.2.isSome) (.tmp 0 rfl) (fun hc => ?_) (fun hc => ?_)
    · have h := ite_t hc h
      refine cw_seq fun K9 hK9 => ?_
      refine cw_region ?_
      refine nx_o (op_move (.tmp 1 rfl)) rfl ?_
      refine nx_o (op_assign (.tmp 0 rfl)) rfl ?_
      refine nx_nil ?_
      refine Says.ex (S' := [(4, Er TE v_r4.2)]) (O' := []) (says_pick [0] [] rfl rfl) ?_
      refine ex_kx (hK9 _ _ ?_)
      refine cw_ret ?_
      refine ex_tr ?_
      cases h
      exact ex_done (.inl rfl) rfl (fun a w G V hs _ hS => res1 rfl (.tmp 0 rfl) a w G V hS)
    · have h := ite_f hc h
      refine cw_skip ?_
      refine ex_kx (hK6 _ _ ?_)
      refine cw_seq fun K10 hK10 => ?_
      refine cw_region ?_
      refine nx_o (op_move (.tmp 3 rfl)) rfl ?_
      refine nx_o (op_move (.tmp 3 rfl)) rfl ?_
      obtain ⟨v_r5, hv_r5, h⟩ := bnd h
      refine nx_o (op_call0 (show Fn Go.Proofs.Try.prog 11 [SL 2 cSample v_l2, I (v_y3.row.length : Int)] [] (.tup [I v_r5.1, Er TE v_r5.2]) [] from (f11_fn N v_l2 (v_y3.row.length : Int) _ hv_r5)) c11 (.cons (.tmp 1 rfl) (.cons (.tmp 0 rfl) .nil))) rfl ?_
      refine nx_o (op_move (.tmp 0 rfl)) rfl ?_
      refine nx_o (op_extract (.tmp 0 rfl) rfl) rfl ?_
      refine nx_o (op_extract (.tmp 1 rfl) rfl) rfl ?_
      refine nx_o (op_assign (.tmp 1 rfl)) rfl ?_
      refine nx_o (op_assign (.tmp 1 rfl)) rfl ?_
      refine nx_nil ?_
      refine Says.ex (S' := [(9, Er TE v_r5.2)]) (O' := []) (says_pick [0] [] rfl rfl) ?_
      refine ex_kx (hK10 _ _ ?_)
      refine cw_seq fun K11 hK11 => ?_
      refine cw_region ?_
      refine nx_o (op_move (.tmp 0 rfl)) rfl ?_
      refine nx_o (op_assign (.tmp 0 rfl)) rfl ?_
      refine nx_nil ?_
      refine Says.ex (S' := [(4, Er TE v_r5.2)]) (O' := []) (says_pick [0] [] rfl rfl) ?_
      refine ex_kx (hK11 _ _ ?_)
      refine cw_ret ?_
      cases h
      exact ex_done (.inl rfl) rfl (fun a w G V hs _ hS => res1 rfl (.tmp 0 rfl) a w G V hS)

theorem f21_fn (N : Nat) (v_t1 : List Node) (v_l2 : List Sample) (r : Int × (Option Int)) (h : grow_Wrong N v_t1 v_l2 = some r) : Fn Go.Proofs.Try.prog 21 [SL 6 cNode v_t1, SL 2 cSample v_l2] [] (.tup [I r.1, Er TE r.2]) [] := by
  unfold grow_Wrong at h
  refine fn_intro [] fun21 rfl rfl (Nat.le_of_ble_eq_true rfl) rfl rfl (fun w G V => ?_)
  show Cw _ _ _ _ [(0, SL 6 cNode v_t1), (1, SL 2 cSample v_l2)] []
  refine cw_seq fun K1 hK1 => ?_
  refine cw_region ?_
  refine nx_o (op_assign (Can.int _ _ _)) rfl ?_
  refine nx_o (op_assign (Can.nilE _ TE)) rfl ?_
  refine nx_nil ?_
  refine Says.ex (S' := [(0, SL 6 cNode v_t1), (1, SL 2 cSample v_l2)]) (O' := []) (says_pick [2, 3] [] rfl rfl) ?_
  refine ex_kx (hK1 _ _ ?_)
  refine cw_seq fun K2 hK2 => ?_
  refine cw_seq fun K3 hK3 => ?_
  refine cw_region ?_
  refine nx_o (op_move (.tmp 0 rfl)) rfl ?_
  refine nx_o (op_move (.tmp 2 rfl)) rfl ?_
  obtain ⟨v_r3, hv_r3, h⟩ := bnd h
  refine nx_o (op_call0 (show Fn Go.Proofs.Try.prog 47 [SL 6 cNode v_t1, SL 2 cSample v_l2] [] (Er TE v_r3) [] from (f47_fn N v_t1 v_l2 _ hv_r3)) c47 (.cons (.tmp 1 rfl) (.cons (.tmp 0 rfl) .nil))) rfl ?_
  refine nx_o (op_assign (.tmp 0 rfl)) rfl ?_
  refine nx_nil ?_
  refine Says.ex (S' := [(6, Er TE v_r3), (0, SL 6 cNode v_t1), (1, SL 2 cSample v_l2)]) (O' := []) (says_pick [0, 4, 5] [] rfl rfl) ?_
  refine ex_kx (hK3 _ _ ?_)
  refine cw_seq fun K4 hK4 => ?_
  refine cw_region ?_
  refine nx_o (op_move (.tmp 0 rfl)) rfl ?_
  refine nx_o (op_neqNil (.tmp 0 rfl) u28) rfl ?_
  refine nx_nil ?_
  refine Says.ex (S' := [(15, B v_r3.isSome), (6, Er TE v_r3), (0, SL 6 cNode v_t1), (1, SL 2 cSample v_l2)]) (O' := []) (says_pick [0, 2, 3, 4] [] rfl rfl) ?_
  refine ex_kx (hK4 _ _ ?_)
  refine cw_cond (b := v_r3.isSome) (.tmp 0 rfl) (fun hc => ?_) (fun hc => ?_)
  · have h := ite_t hc h
    refine cw_seq fun K5 hK5 => ?_
    refine cw_region ?_
    refine nx_o (op_move (.tmp 1 rfl)) rfl ?_
    refine nx_o (op_assign (Can.int _ _ _)) rfl ?_
    refine nx_o (op_assign (.tmp 1 rfl)) rfl ?_
    refine nx_nil ?_
    refine Says.ex (S' := [(5, Er TE v_r3), (4, I 0)]) (O' := []) (says_pick [0, 1] [] rfl rfl) ?_
    refine ex_kx (hK5 _ _ ?_)
    refine cw_ret ?_
    refine ex_tr ?_
    cases h
    refine Says.ex (S' := [(4, I 0), (5, Er TE v_r3)]) (O' := []) (says_pick [1, 0] [] rfl rfl) ?_
    exact ex_done (.inl rfl) rfl (fun a w G V hs _ hS => resM rfl (.tmp (.tmp 0 rfl) (.tmp (.tmp 1 rfl) .nil)) a w G V hs hS)
  · have h := ite_f hc h
    refine cw_skip ?_
    refine ex_kx (hK2 _ _ ?_)
    refine cw_seq fun K6 hK6 => ?_
    refine cw_region ?_
    refine nx_o (op_assign (Can.int _ _ _)) rfl ?_
    refine nx_nil ?_
    refine Says.ex (S' := [(7, I 0), (0, SL 6 cNode v_t1), (1, SL 2 cSample v_l2)]) (O' := []) (says_pick [0, 3, 4] [] rfl rfl) ?_
    refine ex_kx (hK6 _ _ ?_)
    refine cw_join (fun S O => ∃ (v_n20 : Int), grow_Wrong_j1 N v_n20 = some r ∧ S = [(7, I v_n20)] ∧ O = []) ?_ (fun K25 hK25 => ?_)
    · rintro S O ⟨v_n20, h, rfl, rfl⟩
      unfold grow_Wrong_j1 at h
      refine cw_seq fun K26 hK26 => ?_
      refine cw_region ?_
      refine nx_o (op_move (.tmp 0 rfl)) rfl ?_
      refine nx_o (op_assign (.tmp 0 rfl)) rfl ?_
      refine nx_o (op_assign (Can.nilE _ TE)) rfl ?_
      refine nx_nil ?_
      refine Says.ex (S' := [(5, Er TE none), (4, I v_n20)]) (O' := []) (says_pick [0, 1] [] rfl rfl) ?_
      refine ex_kx (hK26 _ _ ?_)
      refine cw_ret ?_
      cases h
      refine Says.ex (S' := [(4, I v_n20), (5, Er TE none)]) (O' := []) (says_pick [1, 0] [] rfl rfl) ?_
      exact ex_done (.inl rfl) rfl (fun a w G V hs _ hS => resM rfl (.tmp (.tmp 0 rfl) (.tmp (.tmp 1 rfl) .nil)) a w G V hs hS)
    ·
      refine cw_seq fun K27 hK27 => ?_
      refine cw_region ?_
      refine nx_o (op_move (.tmp 2 rfl)) rfl ?_
      refine nx_o (op_len (.tmp 0 rfl) u22) rfl ?_
      refine nx_o (op_move (Can.int _ _ _)) rfl ?_
      refine nx_nil ?_
      refine Says.ex (S' := [(19, I 0), (18, I (v_l2.length : Int)), (17, SL 2 cSample v_l2), (7, I 0), (0, SL 6 cNode v_t1)]) (O' := []) (says_pick [0, 1, 2, 3, 4] [] rfl rfl) ?_
      refine ex_kx (hK27 _ _ ?_)
      refine cw_block ?_
      refine Says.cw (S' := [(0, SL 6 cNode v_t1), (7, I 0), (17, SL 2 cSample v_l2), (18, I (v_l2.length : Int)), (19, I 0)]) (O' := []) (says_pick [4, 3, 2, 1, 0] [] rfl rfl) ?_
      refine cw_loopJ (fun n S O => ∃ (v_n31 : Int) (v_t32 : Int), grow_Wrong_l1 N v_l2 v_t1 n v_n31 v_t32 = some r ∧ S = [(0, SL 6 cNode v_t1), (7, I v_n31), (17, SL 2 cSample v_l2), (18, I (v_l2.length : Int)), (19, I v_t32)] ∧ O = []) ?_ ?_ N ⟨0, 0, h, rfl, rfl⟩
      · rintro S O ⟨v_n31, v_t32, h, -, -⟩
        simp [grow_Wrong_l1] at h
      · rintro n_1 S O ⟨v_n31, v_t32, h, rfl, rfl⟩ K38 hK38
        rw [grow_Wrong_l1] at h
        refine cw_seq fun K39 hK39 => ?_
        refine cw_region ?_
        refine nx_o (op_lss (.tmp 4 rfl) (.tmp 3 rfl)) rfl ?_
        refine nx_nil ?_
        refine ex_kx (hK39 _ _ ?_)
        refine cw_seq fun K40 hK40 => ?_
        refine cw_cond (b := (decide (v_t32 < (v_l2.length : Int)))) (.tmp 0 rfl) (fun hc => ?_) (fun hc => ?_)
        · have h := ite_t hc h
          refine cw_skip ?_
          refine ex_kx (hK40 _ _ ?_)
          refine cw_seq fun K41 hK41 => ?_
          refine cw_block ?_
          refine cw_seq fun K42 hK42 => ?_
          refine cw_region ?_
          obtain ⟨v_y33, hv_y33, h⟩ := bnd h
          refine nx_o (op_indexX hv_y33 (.tmp 3 rfl) (.tmp 5 rfl) u22 s25) rfl ?_
          refine nx_o (op_loadA (cSample v_y33) (.tmp 0 rfl) a25 s25 rfl) rfl ?_
          refine nx_op (op_alloc 106 (cSample (Sample.mk [] 0)) za25 zSample rfl) rfl ?_
          show Nx _ _ _ _ _ [(9, .ref 106), (22, .agg (cSample v_y33)), (21, .ptr (cSample v_y33)), (20, B (decide (v_t32 < (v_l2.length : Int)))), (0, SL 6 cNode v_t1), (7, I v_n31), (17, SL 2 cSample v_l2), (18, I (v_l2.length : Int)), (19, I v_t32)] [(106, .var 25 [SL 1 cI [], I 0])]
          refine nx_o0 (op_storeVA (its := (cSample v_y33)) (.tmp 0 rfl) 0 rfl (.agg (.tmp 1 rfl)) rfl s25) ?_
          show Nx _ _ _ _ _ [(9, .ref 106), (22, .agg (cSample v_y33)), (21, .ptr (cSample v_y33)), (20, B (decide (v_t32 < (v_l2.length : Int)))), (0, SL 6 cNode v_t1), (7, I v_n31), (17, SL 2 cSample v_l2), (18, I (v_l2.length : Int)), (19, I v_t32)] [(106, .var 25 [SL 1 cI v_y33.row, I v_y33.target])]
          refine nx_nil ?_
          refine Says.ex (S' := [(9, .ref 106), (0, SL 6 cNode v_t1), (7, I v_n31), (17, SL 2 cSample v_l2), (18, I (v_l2.length : Int)), (19, I v_t32)]) (O' := [(106, .var 25 [SL 1 cI v_y33.row, I v_y33.target])]) (says_pick [0, 4, 5, 6, 7, 8] [0] rfl rfl) ?_
          refine ex_kx (hK42 _ _ ?_)
          refine cw_seq fun K43 hK43 => ?_
          obtain ⟨v_r34, hv_r34, h⟩ := bnd h
          obtain ⟨v_y35, hv_y35, h⟩ := bnd h
          refine cw_draw (Plan.mk [] [[], [0], [], [], [], [4], [3, 4, 5], [2, 3, 4, 5, 6], [2, 3, 4, 5, 6, 7], [2, 3, 4, 5, 6, 7, 8], [0, 1, 2, 3, 4, 5, 6, 7, 8, 9], [0, 1, 2, 3, 4, 5, 6, 7, 8, 9, 10]] [[(9, .ref 106), (0, SL 6 cNode v_t1), (7, I v_n31), (17, SL 2 cSample v_l2), (18, I (v_l2.length : Int)), (19, I v_t32)]] [[(106, .var 25 [SL 1 cI v_y33.row, I v_y33.target])]] [(23, .pt 106 1), (24, I v_y33.target), (25, SL 6 cNode v_t1), (26, SL 6 cNode v_t1), (27, .pt 106 0), (28, SL 1 cI v_y33.row), (29, I v_r34), (30, .ptr (cNode v_y35)), (31, .ptr ((cNode v_y35).drop 5)), (32, I v_y35.value), (33, I (w64 (v_y33.target - v_y35.value))), (10, I (w64 (v_y33.target - v_y35.value)))]) mixed rfl rfl rfl rfl ?_ ?_ ?_
          · exact (And.intro (fun _ => (And.intro (show OpY _ _ _ [(9, .ref 106), (0, SL 6 cNode v_t1), (7, I v_n31), (17, SL 2 cSample v_l2), (18, I (v_l2.length : Int)), (19, I v_t32)] [(106, .var 25 [SL 1 cI v_y33.row, I v_y33.target])] _ (.pt 106 1) [(106, .var 25 [SL 1 cI v_y33.row, I v_y33.target])] allp from (OpX.y (op_fieldVar (.tmp 0 rfl) 0 rfl o25_1) rfl)) trivial)) (And.intro (fun _ => (And.intro (show OpY _ _ _ [(9, .ref 106), (0, SL 6 cNode v_t1), (7, I v_n31), (17, SL 2 cSample v_l2), (18, I (v_l2.length : Int)), (19, I v_t32), (23, .pt 106 1)] [(106, .var 25 [SL 1 cI v_y33.row, I v_y33.target])] _ (I v_y33.target) [(106, .var 25 [SL 1 cI v_y33.row, I v_y33.target])] allp from (OpX.y (op_loadV (.tmp 6 rfl) 0 rfl rfl a3) rfl)) trivial)) (And.intro (fun _ => (And.intro (show OpY _ _ _ [(9, .ref 106), (0, SL 6 cNode v_t1), (7, I v_n31), (17, SL 2 cSample v_l2), (18, I (v_l2.length : Int)), (19, I v_t32)] [(106, .var 25 [SL 1 cI v_y33.row, I v_y33.target])] _ (SL 6 cNode v_t1) [(106, .var 25 [SL 1 cI v_y33.row, I v_y33.target])] allp from (OpX.y (op_move (.tmp 1 rfl)) rfl)) trivial)) (And.intro (fun _ => (And.intro (show OpY _ _ _ [(9, .ref 106), (0, SL 6 cNode v_t1), (7, I v_n31), (17, SL 2 cSample v_l2), (18, I (v_l2.length : Int)), (19, I v_t32)] [(106, .var 25 [SL 1 cI v_y33.row, I v_y33.target])] _ (SL 6 cNode v_t1) [(106, .var 25 [SL 1 cI v_y33.row, I v_y33.target])] allp from (OpX.y (op_move (.tmp 1 rfl)) rfl)) trivial)) (And.intro (fun _ => (And.intro (show OpY _ _ _ [(9, .ref 106), (0, SL 6 cNode v_t1), (7, I v_n31), (17, SL 2 cSample v_l2), (18, I (v_l2.length : Int)), (19, I v_t32)] [(106, .var 25 [SL 1 cI v_y33.row, I v_y33.target])] _ (.pt 106 0) [(106, .var 25 [SL 1 cI v_y33.row, I v_y33.target])] allp from (OpX.y (op_fieldVar (.tmp 0 rfl) 0 rfl o25_0) rfl)) trivial)) (And.intro (fun _ => (And.intro (show OpY _ _ _ [(9, .ref 106), (0, SL 6 cNode v_t1), (7, I v_n31), (17, SL 2 cSample v_l2), (18, I (v_l2.length : Int)), (19, I v_t32), (27, .pt 106 0)] [(106, .var 25 [SL 1 cI v_y33.row, I v_y33.target])] _ (SL 1 cI v_y33.row) [(106, .var 25 [SL 1 cI v_y33.row, I v_y33.target])] allp from (OpX.y (op_loadV (.tmp 6 rfl) 0 rfl rfl a23) rfl)) trivial)) (And.intro (fun _ => (And.intro (show OpY _ _ _ [(9, .ref 106), (0, SL 6 cNode v_t1), (7, I v_n31), (17, SL 2 cSample v_l2), (18, I (v_l2.length : Int)), (19, I v_t32), (26, SL 6 cNode v_t1), (27, .pt 106 0), (28, SL 1 cI v_y33.row)] [(106, .var 25 [SL 1 cI v_y33.row, I v_y33.target])] _ (I v_r34) [(106, .var 25 [SL 1 cI v_y33.row, I v_y33.target])] allp from (OpX.y (op_call0 (show Fn Go.Proofs.Try.prog 61 [SL 6 cNode v_t1, SL 1 cI v_y33.row] [] (I v_r34) [] from (f61_fn N v_t1 v_y33.row _ hv_r34)) c61 (.cons (.tmp 6 rfl) (.cons (.tmp 8 rfl) .nil))) rfl)) trivial)) (And.intro (fun _ => (And.intro (show OpY _ _ _ [(9, .ref 106), (0, SL 6 cNode v_t1), (7, I v_n31), (17, SL 2 cSample v_l2), (18, I (v_l2.length : Int)), (19, I v_t32), (25, SL 6 cNode v_t1), (26, SL 6 cNode v_t1), (27, .pt 106 0), (28, SL 1 cI v_y33.row), (29, I v_r34)] [(106, .var 25 [SL 1 cI v_y33.row, I v_y33.target])] _ (.ptr (cNode v_y35)) [(106, .var 25 [SL 1 cI v_y33.row, I v_y33.target])] allp from (OpX.y (op_indexX hv_y35 (.tmp 6 rfl) (.tmp 10 rfl) u26 s32) rfl)) trivial)) (And.intro (fun _ => (And.intro (show OpY _ _ _ [(9, .ref 106), (0, SL 6 cNode v_t1), (7, I v_n31), (17, SL 2 cSample v_l2), (18, I (v_l2.length : Int)), (19, I v_t32), (25, SL 6 cNode v_t1), (26, SL 6 cNode v_t1), (27, .pt 106 0), (28, SL 1 cI v_y33.row), (29, I v_r34), (30, .ptr (cNode v_y35))] [(106, .var 25 [SL 1 cI v_y33.row, I v_y33.target])] _ (.ptr ((cNode v_y35).drop 5)) [(106, .var 25 [SL 1 cI v_y33.row, I v_y33.target])] allp from (OpX.y (op_field (.tmp 11 rfl) o32_5) rfl)) trivial)) (And.intro (fun _ => (And.intro (show OpY _ _ _ [(9, .ref 106), (0, SL 6 cNode v_t1), (7, I v_n31), (17, SL 2 cSample v_l2), (18, I (v_l2.length : Int)), (19, I v_t32), (25, SL 6 cNode v_t1), (26, SL 6 cNode v_t1), (27, .pt 106 0), (28, SL 1 cI v_y33.row), (29, I v_r34), (30, .ptr (cNode v_y35)), (31, .ptr ((cNode v_y35).drop 5))] [(106, .var 25 [SL 1 cI v_y33.row, I v_y33.target])] _ (I v_y35.value) [(106, .var 25 [SL 1 cI v_y33.row, I v_y33.target])] allp from (OpX.y (op_load1 (.tmp 12 rfl) a3) rfl)) trivial)) (And.intro (fun _ => (And.intro (show OpY _ _ _ [(9, .ref 106), (0, SL 6 cNode v_t1), (7, I v_n31), (17, SL 2 cSample v_l2), (18, I (v_l2.length : Int)), (19, I v_t32), (23, .pt 106 1), (24, I v_y33.target), (25, SL 6 cNode v_t1), (26, SL 6 cNode v_t1), (27, .pt 106 0), (28, SL 1 cI v_y33.row), (29, I v_r34), (30, .ptr (cNode v_y35)), (31, .ptr ((cNode v_y35).drop 5)), (32, I v_y35.value)] [(106, .var 25 [SL 1 cI v_y33.row, I v_y33.target])] _ (I (w64 (v_y33.target - v_y35.value))) [(106, .var 25 [SL 1 cI v_y33.row, I v_y33.target])] allp from (OpX.y (op_sub (.tmp 7 rfl) (.tmp 15 rfl)) rfl)) trivial)) (And.intro (fun _ => (And.intro (show OpY _ _ _ [(9, .ref 106), (0, SL 6 cNode v_t1), (7, I v_n31), (17, SL 2 cSample v_l2), (18, I (v_l2.length : Int)), (19, I v_t32), (23, .pt 106 1), (24, I v_y33.target), (25, SL 6 cNode v_t1), (26, SL 6 cNode v_t1), (27, .pt 106 0), (28, SL 1 cI v_y33.row), (29, I v_r34), (30, .ptr (cNode v_y35)), (31, .ptr ((cNode v_y35).drop 5)), (32, I v_y35.value), (33, I (w64 (v_y33.target - v_y35.value)))] [(106, .var 25 [SL 1 cI v_y33.row, I v_y33.target])] _ (I (w64 (v_y33.target - v_y35.value))) [(106, .var 25 [SL 1 cI v_y33.row, I v_y33.target])] allp from (OpX.y (op_assign (.tmp 16 rfl)) rfl)) trivial)) trivial))))))))))))
          · exact trivial
          show Ex _ _ _ [(9, .ref 106), (0, SL 6 cNode v_t1), (7, I v_n31), (17, SL 2 cSample v_l2), (18, I (v_l2.length : Int)), (19, I v_t32), (23, .pt 106 1), (24, I v_y33.target), (25, SL 6 cNode v_t1), (26, SL 6 cNode v_t1), (27, .pt 106 0), (28, SL 1 cI v_y33.row), (29, I v_r34), (30, .ptr (cNode v_y35)), (31, .ptr ((cNode v_y35).drop 5)), (32, I v_y35.value), (33, I (w64 (v_y33.target - v_y35.value))), (10, I (w64 (v_y33.target - v_y35.value)))] [(106, .var 25 [SL 1 cI v_y33.row, I v_y33.target])]
          refine Says.ex (S' := [(0, SL 6 cNode v_t1), (7, I v_n31), (17, SL 2 cSample v_l2), (18, I (v_l2.length : Int)), (19, I v_t32), (10, I (w64 (v_y33.target - v_y35.value)))]) (O' := []) (says_pick [1, 2, 3, 4, 5, 17] [] rfl rfl) ?_
          refine ex_kx (hK43 _ _ ?_)
          refine cw_region ?_
          refine nx_o (op_move (.tmp 1 rfl)) rfl ?_
          refine nx_o (op_move (.tmp 6 rfl)) rfl ?_
          refine nx_o (op_move (.tmp 7 rfl)) rfl ?_
          obtain ⟨v_t36, hv_t36, h⟩ := bnd h
          refine nx_o (OpX.named hv_t36 (op_mul (.tmp 1 rfl) (.tmp 0 rfl))) rfl ?_
          refine nx_o (op_add (.tmp 3 rfl) (.tmp 0 rfl)) rfl ?_
          refine nx_k [0, 1, 2, 3, 4, 5, 7, 8, 9, 10] (op_assign (.tmp 0 rfl)) rfl rfl ?_
          show Nx _ _ _ _ _ [(7, I (w64 (v_n31 + v_t36))), (38, I (w64 (v_n31 + v_t36))), (37, I v_t36), (36, I (w64 (v_y33.target - v_y35.value))), (35, I (w64 (v_y33.target - v_y35.value))), (34, I v_n31), (0, SL 6 cNode v_t1), (17, SL 2 cSample v_l2), (18, I (v_l2.length : Int)), (19, I v_t32), (10, I (w64 (v_y33.target - v_y35.value)))] []
          refine nx_nil ?_
          refine Says.ex (S' := [(7, I (w64 (v_n31 + v_t36))), (0, SL 6 cNode v_t1), (17, SL 2 cSample v_l2), (18, I (v_l2.length : Int)), (19, I v_t32)]) (O' := []) (says_pick [0, 6, 7, 8, 9] [] rfl rfl) ?_
          refine ex_bn ?_
          refine ex_kx (hK41 _ _ ?_)
          refine cw_region ?_
          refine nx_o (op_add (.tmp 4 rfl) (Can.int _ _ _)) rfl ?_
          refine nx_k [0, 1, 2, 3, 4] (op_move (.tmp 0 rfl)) rfl rfl ?_
          show Nx _ _ _ _ _ [(19, I (w64 (v_t32 + 1))), (39, I (w64 (v_t32 + 1))), (7, I (w64 (v_n31 + v_t36))), (0, SL 6 cNode v_t1), (17, SL 2 cSample v_l2), (18, I (v_l2.length : Int))] []
          refine nx_nil ?_
          refine Says.ex (S' := [(19, I (w64 (v_t32 + 1))), (7, I (w64 (v_n31 + v_t36))), (0, SL 6 cNode v_t1), (17, SL 2 cSample v_l2), (18, I (v_l2.length : Int))]) (O' := []) (says_pick [0, 2, 3, 4, 5] [] rfl rfl) ?_
          refine ex_kx ?_
          refine Says.kx (S' := [(0, SL 6 cNode v_t1), (7, I (w64 (v_n31 + v_t36))), (17, SL 2 cSample v_l2), (18, I (v_l2.length : Int)), (19, I (w64 (v_t32 + 1)))]) (O' := []) (says_pick [2, 1, 3, 4, 0] [] rfl rfl) ?_
          exact hK38 _ _ ⟨w64 (v_n31 + v_t36), w64 (v_t32 + 1), h, rfl, rfl⟩
        · have h := ite_f hc h
          refine cw_exit ?_
          refine ex_te ?_
          refine ex_te ?_
          refine ex_be ?_
          refine ex_kx ?_
          refine Says.kx (S' := [(7, I v_n31)]) (O' := []) (says_pick [2] [] rfl rfl) ?_
          exact hK25 _ _ ⟨v_n31, h, rfl, rfl⟩

end Go.Dl
