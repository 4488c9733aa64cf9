/- The tree that grows, as a tree; how it is laid. -/
import Derived.Test.YtbalmknhjokgaaaPBest
import Derived.Test.YtbalmknhjokgaaaPWalk
set_option linter.unusedVariables false
namespace Go.Dl

/-- a tree as such -/
inductive T
  | leaf (v : Int)
  | node (f c : Int) (less : Bool) (a b : T)
def T.size : T → Nat
  | .leaf _ => 1
  | .node _ _ _ a b => 1 + a.size + b.size
def lay : T → Int → List Node
  | .leaf v, _ => [⟨-1, 0, 0, 0, false, v⟩]
  | .node f c less a b, i => ⟨f, c, i + 1, i + 1 + a.size, less, 0⟩ :: (lay a (i + 1) ++ lay b (i + 1 + a.size))
theorem lay_len : ∀ (t : T) (i : Int), (lay t i).length = t.size
  | .leaf _, _ => rfl
  | .node _ _ _ a b, i => by simp only [lay, List.length_cons, List.length_append, lay_len a, lay_len b, T.size]; omega
theorem T.size_pos (t : T) : 1 ≤ t.size := by cases t <;> simp [T.size] <;> omega
def growT (F least : Int) : Nat → List Sample → T
  | 0, l => .leaf (tsum l / l.length)
  | d + 1, l => if (bestS l F least).ft < 0 then .leaf (tsum l / l.length) else
      .node (bestS l F least).ft (bestS l F least).ct (decide (((lowS l (bestS l F least).ft (bestS l F least).ct).length : Int) > ((highS l (bestS l F least).ft (bestS l F least).ct).length : Int)))
        (growT F least d (lowS l (bestS l F least).ft (bestS l F least).ct)) (growT F least d (highS l (bestS l F least).ft (bestS l F least).ct))
theorem growT_size (F least : Int) : ∀ (d : Nat) (l : List Sample), (growT F least d l).size + 1 ≤ 2 ^ (d + 1)
  | 0, l => by simp [growT, T.size]
  | d + 1, l => by
    rw [growT]
    have hp : 2 ^ (d + 1 + 1) = 2 * 2 ^ (d + 1) := by rw [Nat.pow_succ]; omega
    have h1 : 1 ≤ 2 ^ (d + 1) := Nat.one_le_two_pow
    split
    · simp only [T.size]; omega
    · simp only [T.size]
      have a := growT_size F least d (lowS l (bestS l F least).ft (bestS l F least).ct)
      have b := growT_size F least d (highS l (bestS l F least).ft (bestS l F least).ct)
      omega
theorem floor_eq {N : Nat} {a b : Int} (hb : 0 < b) (h1 : -1000000 ≤ a) (h2 : a ≤ 1000000) : fixed_Floor N a b = some (a / b) := by
  unfold fixed_Floor
  rw [nz_ok (by omega)]
  simp only [Option.bind_some]
  have u1 : a / b ≤ 1000000 := Int.ediv_le_of_le_mul hb (by omega)
  have u2 : -1000000 ≤ a / b := Int.le_ediv_of_mul_le hb (by omega)
  rw [Int.tmod_eq_emod, Int.tdiv_eq_ediv]
  have u3 := Int.emod_nonneg a (show b ≠ 0 by omega)
  have u4 := Int.emod_lt_of_pos a hb
  have u5 : b.sign = 1 := Int.sign_eq_one_of_pos hb
  by_cases hc : 0 ≤ a ∨ b ∣ a
  · rw [if_pos hc, if_pos hc]
    rw [if_neg (by simp only [decide_eq_true_eq]; omega)]
    rw [w64_id (by omega) (by omega)]; simp
  · rw [if_neg hc, if_neg hc]
    rw [if_pos (by simp only [decide_eq_true_eq]; omega), u5]
    rw [w64_id (n := a / b + 1) (by omega) (by omega), w64_id (by omega) (by omega)]
    congr 1; omega
theorem Wide.low {l : List Sample} {F : Int} (h : Wide l F) (f c : Int) : Wide (lowS l f c) F := h.filter _
theorem Wide.high {l : List Sample} {F : Int} (h : Wide l F) (f c : Int) : Wide (highS l f c) F := h.filter _
theorem Tb.low {l : List Sample} (h : Tb l) (f c : Int) : Tb (lowS l f c) := h.filter _
theorem Tb.high {l : List Sample} (h : Tb l) (f c : Int) : Tb (highS l f c) := h.filter _
/-- what is known of a question that is asked -/
theorem best_may {l : List Sample} {F least : Int} (hl0 : 1 ≤ least) (hlen : 1 ≤ l.length) (hF : 0 ≤ F) : -1 ≤ (bestS l F least).ft ∧ (bestS l F least).ft < max F 0 ∧ (0 ≤ (bestS l F least).ft → may l least (bestS l F least).ft (bestS l F least).ct ∧ (bestS l F least).ft < F) := by
  rcases bestS_is (F := F) (least := least) hl0 hlen hF with ⟨h1, _⟩ | ⟨h1, h2, h3, _⟩
  · exact ⟨by omega, by omega, fun h => by omega⟩
  · exact ⟨by omega, by have := h2.2.1; omega, fun _ => ⟨h3, h2.2.1⟩⟩
theorem grow_eq {F least : Int} (hl0 : 1 ≤ least) (hF0 : 0 ≤ F) (hF : F ≤ 60) : ∀ (d N : Nat) (n : List Node) (l : List Sample), 1001 + d < N → d ≤ 1000 → Wide l F → Tb l → 1 ≤ l.length → l.length ≤ 60 → n.length + 2 ^ (d + 1) ≤ 1000000 →
    grow_Grow N n l F d least = some (n ++ lay (growT F least d l) n.length)
  | d, 0, n, l, h, _, _, _, _, _, _ => by omega
  | d, N + 1, n, l, hN, hd, hw, ht, hp, hl, hn => by
    rw [grow_Grow]
    have leafC : ∀ kr, grow_Grow_j1 N l n kr F d least (-1) 0 = some (n ++ [⟨-1, 0, 0, 0, false, tsum l / l.length⟩]) := by
      intro kr
      unfold grow_Grow_j1
      have b1 := tsum_bd ht
      have h1 : 1 ≤ 2 ^ (d + 1) := Nat.one_le_two_pow
      rw [if_pos (by decide), sum_ok ht (by omega) (by omega)]
      simp only [Option.bind_some]
      rw [floor_eq (by omega) (by omega) (by omega)]
      simp only [Option.bind_some]
      rw [app_ok _ _ (by simp [LIM]; omega)]
      rfl
    cases d with
    | zero =>
      rw [if_neg (by simp), leafC]; rfl
    | succ d =>
      have ih := grow_eq hl0 hF0 hF d N
      have hpow : 2 ^ (d + 1 + 1) = 2 * 2 ^ (d + 1) := by rw [Nat.pow_succ]; omega
      have h1 : 1 ≤ 2 ^ (d + 1) := Nat.one_le_two_pow
      rw [if_pos (by simp), best_eq hw ht hl hl0 (by omega) hF0 hF hp]
      simp only [Option.bind_some]
      obtain ⟨m1, m2, m3⟩ := best_may (l := l) (F := F) (least := least) hl0 hp hF0
      rw [growT]
      by_cases hneg : (bestS l F least).ft < 0
      · have e1 : (bestS l F least).ft = -1 := by omega
        have e2 : (bestS l F least).ct = 0 := by
          rcases bestS_is (F := F) (least := least) hl0 hp hF0 with ⟨_, h2, _⟩ | ⟨h1, _⟩
          · exact h2
          · omega
        rw [if_pos hneg, e1, e2, leafC]; rfl
      · rw [if_neg hneg]
        have h0 : 0 ≤ (bestS l F least).ft := by omega
        obtain ⟨m4, m5⟩ := m3 h0
        generalize (bestS l F least).ft = f at *
        generalize (bestS l F least).ct = c at *
        unfold grow_Grow_j1
        rw [if_neg (by simp; omega), part_ok hw h0 m5 (by omega) (by omega)]
        have e1 : l.filter (lowP f c) = lowS l f c := rfl
        have e2 : l.filter (fun s => !lowP f c s) = highS l f c := rfl
        have hlen := part_len l (lowP f c)
        rw [e1, e2] at hlen ⊢
        simp only [Option.bind_some]
        rw [app_ok _ _ (by simp [LIM]; omega)]
        simp only [Option.bind_some]
        have ed : w64 (((d + 1 : Nat) : Int) - 1) = (d : Int) := by rw [w64_id (by omega) (by omega)]; omega
        rw [ed, w64_id (n := (n.length : Int) + 1) (by omega) (by omega)]
        have sa := growT_size F least d (lowS l f c)
        have sb := growT_size F least d (highS l f c)
        rw [ih _ (lowS l f c) (by omega) (by omega) (hw.low f c) (ht.low f c) (by have := m4.1; omega) (by omega) (by simp; omega)]
        simp only [Option.bind_some]
        have hlt : n.length < ((n ++ [Node.mk f c ((n.length : Int) + 1) 0 (decide (((lowS l f c).length : Int) > ((highS l f c).length : Int))) 0]) ++ lay (growT F least d (lowS l f c)) ((n ++ [Node.mk f c ((n.length : Int) + 1) 0 (decide (((lowS l f c).length : Int) > ((highS l f c).length : Int))) 0]).length)).length := by simp
        rw [ix_get _ n.length hlt]
        simp only [Option.bind_some, Int.toNat_natCast]
        have hset : ∀ (x y : Node) (m : List Node), ((n ++ [x]) ++ m).set n.length y = (n ++ [y]) ++ m := by
          intro x y m
          simp
        rw [hset]
        rw [ih _ (highS l f c) (by omega) (by omega) (hw.high f c) (ht.high f c) (by have := m4.2; omega) (by omega) (by simp [lay_len]; omega)]
        simp only [Option.bind_some, lay]
        congr 1
        simp [lay_len]
        constructor
        · omega
        · congr 1; omega
/-- how the tree comes to be -/
theorem fit_ok {N : Nat} (hN : 1100 < N) (l : List Sample) (F d least : Int) : grow_Fit N l F d least =
    if (samplesF l F).2 ≠ 0 then some ([], some (samplesF l F).2) else if d < 0 ∨ d > 5 ∨ least < 1 ∨ least > 60 then some ([], some 1) else some (lay (growT F least d.toNat l) 0, none) := by
  by_cases hs : (samplesF l F).2 = 0
  · rw [if_neg (by simp [hs])]
    have hc := sam_chk (N := N) (by omega) l F
    rw [samplesF_ok hs] at hc
    have hsm := sams_of hs
    by_cases hb : d < 0 ∨ d > 5 ∨ least < 1 ∨ least > 60
    · rw [if_pos hb, fit_bad hc (by omega)]
    · rw [if_neg hb, fit_eq hc (by omega)]
      have hd : d = (d.toNat : Int) := by omega
      have h64 : 2 ^ (d.toNat + 1) ≤ 2 ^ 6 := Nat.pow_le_pow_right (by omega) (by omega)
      have := grow_eq (F := F) (least := least) (by omega) hsm.f0 (by have := hsm.f8; omega) d.toNat N [] l (by omega) (by omega) hsm.wide hsm.tb hsm.len0 hsm.len1 (by simp; omega)
      rw [← hd] at this
      rw [this]
      simp
  · rw [if_pos hs]
    have hc := sam_chk (N := N) (by omega) l F
    have he : eo (samplesF l F).2 = some (samplesF l F).2 := by simp [eo, hs]
    rw [he] at hc
    exact fit_err hc
end Go.Dl
