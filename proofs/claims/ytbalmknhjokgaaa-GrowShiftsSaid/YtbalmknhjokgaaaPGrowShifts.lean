/- GrowShifts, the plain law. -/
import Derived.Test.YtbalmknhjokgaaaPCheck
import Derived.Test.YtbalmknhjokgaaaDO
set_option linter.unusedVariables false
namespace Go.Dl.GS

def shS (d : Int) (s : Sample) : Sample := { s with target := s.target + d }
def shN (d : Int) (n : Node) : Node := if n.feature = -1 then { n with value := n.value + d } else n
theorem tsum_sh (d : Int) : ∀ l : List Sample, tsum (l.map (shS d)) = tsum l + d * l.length
  | [] => by simp [tsum]
  | s :: l => by simp only [List.map_cons, tsum, tsum_sh d l, shS, List.length_cons]; grind
theorem cell_sh (d : Int) (s : Sample) (f : Int) : cell (shS d s) f = cell s f := rfl
theorem filter_sh (d f c : Int) (l : List Sample) : (l.map (shS d)).filter (lowP f c) = (l.filter (lowP f c)).map (shS d) := by
  rw [List.filter_map]; rfl
theorem filter_sh2 (d f c : Int) (l : List Sample) : (l.map (shS d)).filter (fun s => !lowP f c s) = (l.filter (fun s => !lowP f c s)).map (shS d) := by
  rw [List.filter_map]; rfl
theorem cuts_sh (d f : Int) (l : List Sample) : cuts (l.map (shS d)) f = cuts l f := by
  unfold cuts
  rw [List.map_map]; rfl
theorem wide_sh {d F : Int} {l : List Sample} (h : Wide l F) : Wide (l.map (shS d)) F := by
  intro s hs
  obtain ⟨t, ht, rfl⟩ := List.mem_map.1 hs
  exact h t ht
theorem shfilter {d : Int} {l : List Sample} (h : Tb (l.map (shS d))) (p : Sample → Bool) : Tb ((l.filter p).map (shS d)) := fun s hs => by
  obtain ⟨t, ht, rfl⟩ := List.mem_map.1 hs
  exact h _ (List.mem_map.2 ⟨t, (List.mem_filter.1 ht).1, rfl⟩)

/-- a split leaves something on both sides -/
def Sp (l : List Sample) (ft ct : Int) : Prop := -1 ≤ ft ∧ (0 ≤ ft → 1 ≤ (l.filter (lowP ft ct)).length ∧ 1 ≤ (l.filter (fun s => !lowP ft ct s)).length)
structure Inv (F c : Int) (l : List Sample) (ft ct nm dn : Int) : Prop where
  d0 : 0 < dn
  d1 : dn ≤ 3600
  n0 : 0 ≤ nm
  n1 : nm ≤ 1000000000000
  m0 : 0 ≤ nm + c * dn
  m1 : nm + c * dn ≤ 1000000000000
  f0 : Sp l ft ct
  f1 : ft < F

theorem sq_bd {a : Int} (h1 : -60000 ≤ a) (h2 : a ≤ 60000) : 0 ≤ a * a ∧ a * a ≤ 3600000000 := by
  refine ⟨?_, (mul_bd (A := 60000) (B := 60000) h1 h2 h1 h2).2⟩
  rcases Int.le_total 0 a with h | h
  · exact Int.mul_nonneg h h
  · have := Int.mul_nonneg (show 0 ≤ -a by omega) (show 0 ≤ -a by omega); grind

theorem score_eq {a b p q dn nm : Int} (ha : -60000 ≤ a) (ha2 : a ≤ 60000) (hb : -60000 ≤ b) (hb2 : b ≤ 60000) (hp : 0 ≤ p) (hp2 : p ≤ 60) (hq : 0 ≤ q) (hq2 : q ≤ 60) (hd : 0 ≤ dn) (hd2 : dn ≤ 3600) (hn : 0 ≤ nm) (hn2 : nm ≤ 1000000000000) :
    w64 (w64 (a * a) * q) = a * a * q ∧ w64 (w64 (b * b) * p) = b * b * p ∧ w64 (p * q) = p * q ∧ w64 (a * a * q + b * b * p) = a * a * q + b * b * p ∧
    w64 ((a * a * q + b * b * p) * dn) = (a * a * q + b * b * p) * dn ∧ w64 (nm * (p * q)) = nm * (p * q) ∧ 0 ≤ a * a * q + b * b * p ∧ a * a * q + b * b * p ≤ 1000000000000 ∧ 0 ≤ p * q ∧ p * q ≤ 3600 := by
  have h1 := sq_bd ha ha2
  have h2 := sq_bd hb hb2
  have h3 := mul_nn h1.1 h1.2 hq hq2
  have h4 := mul_nn h2.1 h2.2 hp hp2
  have h5 := mul_nn hp hp2 hq hq2
  have h6 := mul_nn (show 0 ≤ a * a * q + b * b * p by omega) (show a * a * q + b * b * p ≤ 1000000000000 by omega) hd hd2
  have h7 := mul_nn hn hn2 h5.1 (show p * q ≤ 3600 by omega)
  rw [w64_id (n := a * a) (by omega) (by omega), w64_id (n := b * b) (by omega) (by omega)]
  refine ⟨w64_id (by omega) (by omega), w64_id (by omega) (by omega), w64_id (by omega) (by omega), w64_id (by omega) (by omega), w64_id (by omega) (by omega), w64_id (by omega) (by omega), by omega, by omega, by omega, by omega⟩

section
variable {N : Nat} {l : List Sample} {δ F least : Int} (hN : 1000 < N) (hw : Wide l F) (ht : Tb l) (ht2 : Tb (l.map (shS δ))) (hl : l.length ≤ 60) (hl0 : 1 ≤ least)
include hN hw ht ht2 hl hl0

theorem inner {f : Int} (h0 : 0 ≤ f) (h1 : f < F) (kn kn' : Int → Int → Int → Int → Int → Option (Int × Int))
    (hk : ∀ ft ct nm dn, Inv F (2 * δ * tsum l + δ * δ * l.length) l ft ct nm dn → ∃ r, kn ft ct nm dn (w64 (f + 1)) = some r ∧ kn' ft ct (nm + (2 * δ * tsum l + δ * δ * l.length) * dn) dn (w64 (f + 1)) = some r ∧ Sp l r.1 r.2 ∧ r.1 < F) (cs : List Int) (hcs : cs.length ≤ 60) :
    ∀ (n i : Nat) (ft ct nm dn : Int), i ≤ cs.length → cs.length - i < n → Inv F (2 * δ * tsum l + δ * δ * l.length) l ft ct nm dn →
      ∃ r, grow_best_l2 N cs l f least kn n ft ct nm dn (i : Int) = some r ∧ grow_best_l2 N cs (l.map (shS δ)) f least kn' n ft ct (nm + (2 * δ * tsum l + δ * δ * l.length) * dn) dn (i : Int) = some r ∧ Sp l r.1 r.2 ∧ r.1 < F
  | 0, i, ft, ct, nm, dn, _, _, _ => by omega
  | n + 1, i, ft, ct, nm, dn, h2, h3, hi => by
    rw [grow_best_l2, grow_best_l2]
    by_cases hc : i < cs.length
    · have hc' : (i : Int) < (cs.length : Int) := by omega
      simp only [hc', decide_true, if_true, ix_get cs i hc, Option.bind_some, w64_succ i (by omega)]
      rw [part_ok hw h0 h1 (by omega) hN, part_ok (wide_sh hw) h0 h1 (by simpa using (by omega)) hN, filter_sh, filter_sh2]
      simp only [Option.bind_some, List.length_map]
      have hlen := part_len l (lowP f cs[i])
      have hsum := part_sum l (lowP f cs[i])
      have hta := ht.filter (lowP f cs[i])
      have htb := ht.filter (fun s => !lowP f cs[i] s)
      have hta2 := shfilter ht2 (lowP f cs[i])
      have htb2 := shfilter ht2 (fun s => !lowP f cs[i] s)
      generalize hA : l.filter (lowP f cs[i]) = A at *
      generalize hB : l.filter (fun s => !lowP f cs[i] s) = B at *
      by_cases hle : ((decide ((A.length : Int) < least)) || (decide ((B.length : Int) < least))) = true
      · simp only [hle, if_true]
        exact inner h0 h1 kn kn' hk cs hcs n (i + 1) ft ct nm dn (by omega) (by omega) hi
      · have hle' := hle
        simp only [Bool.or_eq_true, decide_eq_true_eq, not_or] at hle'
        simp only [hle, if_false, Bool.false_eq_true]
        rw [sum_ok hta (by omega) hN, sum_ok htb (by omega) hN, sum_ok hta2 (by simpa using (by omega)) hN, sum_ok htb2 (by simpa using (by omega)) hN, tsum_sh, tsum_sh]
        simp only [Option.bind_some]
        have ba := tsum_bd hta
        have bb := tsum_bd htb
        have ba2 := tsum_bd hta2
        have bb2 := tsum_bd htb2
        rw [tsum_sh] at ba2 bb2
        simp only [List.length_map] at ba2 bb2
        generalize ha : tsum A = a at *
        generalize hb : tsum B = b at *
        have hpq : (A.length : Int) + (B.length : Int) = (l.length : Int) := by omega
        have hpA : 1 ≤ A.length ∧ 1 ≤ B.length := by omega
        have hp0 : 1 ≤ (A.length : Int) := by omega
        have hq0 : 1 ≤ (B.length : Int) := by omega
        generalize (A.length : Int) = p at *
        generalize (B.length : Int) = q at *
        have hl' : (l.length : Int) ≤ 60 := by omega
        obtain ⟨e1, e2, e3, e4, e5, e6, e7, e8, e9, e10⟩ := score_eq (a := a) (b := b) (p := p) (q := q) (dn := dn) (nm := nm) (by omega) (by omega) (by omega) (by omega) (by omega) (by omega) (by omega) (by omega) (Int.le_of_lt hi.d0) hi.d1 hi.n0 hi.n1
        obtain ⟨g1, g2, g3, g4, g5, g6, g7, g8, g9, g10⟩ := score_eq (a := a + δ * p) (b := b + δ * q) (p := p) (q := q) (dn := dn) (nm := nm + (2 * δ * tsum l + δ * δ * l.length) * dn) (by omega) (by omega) (by omega) (by omega) (by omega) (by omega) (by omega) (by omega) (Int.le_of_lt hi.d0) hi.d1 hi.m0 hi.m1
        simp only [e1, e2, e3, e4, e5, e6, g1, g2, g4, g5, g6]
        have key : (a + δ * p) * (a + δ * p) * q + (b + δ * q) * (b + δ * q) * p = a * a * q + b * b * p + (2 * δ * tsum l + δ * δ * l.length) * (p * q) := by
          rw [← hsum, ← hpq]; grind
        rw [key]
        have hiff : ((a * a * q + b * b * p + (2 * δ * tsum l + δ * δ * l.length) * (p * q)) * dn > (nm + (2 * δ * tsum l + δ * δ * l.length) * dn) * (p * q)) ↔ ((a * a * q + b * b * p) * dn > nm * (p * q)) := by
          generalize 2 * δ * tsum l + δ * δ * l.length = c
          have : (a * a * q + b * b * p + c * (p * q)) * dn - (nm + c * dn) * (p * q) = (a * a * q + b * b * p) * dn - nm * (p * q) := by grind
          omega
        have hpos : 0 < p * q := Int.mul_pos (by omega) (by omega)
        by_cases hg : (a * a * q + b * b * p) * dn > nm * (p * q)
        · simp only [hg, hiff.2 hg, decide_true, if_true]
          refine inner h0 h1 kn kn' hk cs hcs n (i + 1) f cs[i] _ _ (by omega) (by omega) ⟨hpos, e10, e7, e8, ?_, ?_, ⟨by omega, fun _ => by rw [hA, hB]; exact hpA⟩, h1⟩
          · rw [← key]; exact g7
          · rw [← key]; exact g8
        · have hg' : ¬ ((a * a * q + b * b * p + (2 * δ * tsum l + δ * δ * l.length) * (p * q)) * dn > (nm + (2 * δ * tsum l + δ * δ * l.length) * dn) * (p * q)) := fun h => hg (hiff.1 h)
          simp only [hg, hg', decide_false, Bool.false_eq_true, if_false]
          exact inner h0 h1 kn kn' hk cs hcs n (i + 1) ft ct nm dn (by omega) (by omega) hi
    · have hc' : ¬ (i : Int) < (cs.length : Int) := by omega
      simp only [hc', decide_false, Bool.false_eq_true, if_false, grow_best_j2]
      exact hk ft ct nm dn hi

theorem outer : ∀ (n : Nat) (f ft ct nm dn : Int), 0 ≤ f → f ≤ F → (F - f).toNat < n → F ≤ 60 → Inv F (2 * δ * tsum l + δ * δ * l.length) l ft ct nm dn →
      ∃ r, grow_best_l1 N F l least n ft ct nm dn f = some r ∧ grow_best_l1 N F (l.map (shS δ)) least n ft ct (nm + (2 * δ * tsum l + δ * δ * l.length) * dn) dn f = some r ∧ Sp l r.1 r.2 ∧ r.1 < F
  | 0, f, ft, ct, nm, dn, _, _, _, _, _ => by omega
  | n + 1, f, ft, ct, nm, dn, h0, h1, h2, hF, hi => by
    rw [grow_best_l1, grow_best_l1]
    by_cases hc : f < F
    · simp only [hc, decide_true, if_true]
      have c1 := cells_l N l f F least (grow_best_l1 N F l least n) ft ct nm dn hw h0 hc (by omega) N 0 [] (by omega) (by omega) (by simp)
      have c2 := cells_l N (l.map (shS δ)) f F least (grow_best_l1 N F (l.map (shS δ)) least n) ft ct (nm + (2 * δ * tsum l + δ * δ * l.length) * dn) dn (wide_sh hw) h0 hc (by simpa using (by omega)) N 0 [] (by omega) (by simpa using (by omega)) (by simp)
      simp only [List.drop_zero, List.nil_append, Int.cast_ofNat_Int] at c1 c2
      rw [c1, c2, best_j3 _ _ _ _ _ _ _ _ _ (by omega), best_j3 _ _ _ _ _ _ _ _ _ (by simpa using (by omega)), cuts_sh]
      have hcl := cuts_len l f
      exact inner hN hw ht ht2 hl hl0 h0 hc _ _ (fun ft' ct' nm' dn' hi' => by
        rw [w64_id (by omega) (by omega)]
        exact outer n (f + 1) ft' ct' nm' dn' (by omega) (by omega) (by omega) hF hi') (cuts l f) (by omega) N 0 ft ct nm dn (by omega) (by omega) hi
    · simp only [hc, decide_false, Bool.false_eq_true, if_false, grow_best_j1]
      exact ⟨_, rfl, rfl, hi.f0, hi.f1⟩

theorem best_sh (hF0 : 0 ≤ F) (hF : F ≤ 60) (hpos : 1 ≤ l.length) : ∃ r, grow_best N l F least = some r ∧ grow_best N (l.map (shS δ)) F least = some r ∧ Sp l r.1 r.2 ∧ r.1 < F := by
  unfold grow_best
  rw [sum_ok ht (by omega) hN, sum_ok ht2 (by simpa using (by omega)) hN, tsum_sh]
  simp only [Option.bind_some, List.length_map]
  have b1 := tsum_bd ht
  have b2 := tsum_bd ht2
  rw [tsum_sh] at b2
  simp only [List.length_map] at b2
  have s1 := sq_bd (a := tsum l) (by omega) (by omega)
  have s2 := sq_bd (a := tsum l + δ * l.length) (by omega) (by omega)
  have key : (tsum l + δ * l.length) * (tsum l + δ * l.length) = tsum l * tsum l + (2 * δ * tsum l + δ * δ * l.length) * l.length := by grind
  rw [w64_id (by omega) (by omega), w64_id (by omega) (by omega), key]
  exact outer hN hw ht ht2 hl hl0 N 0 (-1) 0 _ _ (by omega) hF0 (by omega) hF ⟨by omega, by omega, s1.1, by omega, by rw [← key]; exact s2.1, by rw [← key]; omega, ⟨by omega, fun h => by omega⟩, by omega⟩
end

theorem floor_ok {N : Nat} {a b : Int} (hb : 0 < b) (h1 : -1000000 ≤ a) (h2 : a ≤ 1000000) : fixed_Floor N a b = some (a / b) := by
  unfold fixed_Floor
  rw [nz_ok (by omega)]
  simp only [Option.bind_some]
  have u1 : a / b ≤ 1000000 := Int.ediv_le_of_le_mul hb (by omega)
  have u2 : -1000000 ≤ a / b := Int.le_ediv_of_mul_le hb (by omega)
  rw [Int.tmod_eq_emod, Int.tdiv_eq_ediv]
  have u3 := Int.emod_nonneg a (show b ≠ 0 by omega)
  have u4 := Int.emod_lt_of_pos a hb
  have u5 : b.sign = 1 := Int.sign_eq_one_of_pos hb
  by_cases hc : 0 ≤ a ∨ b ∣ a
  · rw [if_pos hc, if_pos hc]
    rw [if_neg (by simp only [decide_eq_true_eq]; omega)]
    rw [w64_id (by omega) (by omega)]; simp
  · rw [if_neg hc, if_neg hc]
    rw [if_pos (by simp only [decide_eq_true_eq]; omega), u5]
    rw [w64_id (n := a / b + 1) (by omega) (by omega), w64_id (by omega) (by omega)]
    congr 1; omega

theorem map_set_sh (δ : Int) (t : List Node) (i : Nat) (y : Node) (r : Int) (hi : i < t.length) (hy : t[i] = y) : (t.set i { y with right := r }).map (shN δ) = (t.map (shN δ)).set i { (shN δ y) with right := r } := by
  rw [List.map_set]
  congr 1
  unfold shN
  split <;> rfl

def Vb (t : List Node) : Prop := ∀ x ∈ t, -1000000 ≤ x.value ∧ x.value ≤ 1000000
theorem Vb.set {t : List Node} (h : Vb t) (i : Nat) (hi : i < t.length) (r : Int) : Vb (t.set i { t[i] with right := r }) := by
  intro x hx
  rcases List.mem_or_eq_of_mem_set hx with hx | rfl
  · exact h x hx
  · exact h t[i] (List.getElem_mem hi)
theorem Vb.app {t : List Node} (h : Vb t) (x : Node) (h1 : -1000000 ≤ x.value) (h2 : x.value ≤ 1000000) : Vb (t ++ [x]) := by
  intro y hy
  rcases List.mem_append.1 hy with hy | hy
  · exact h y hy
  · rw [List.mem_singleton.1 hy]; exact ⟨h1, h2⟩
theorem grow_sh {δ F least : Int} (hl0 : 1 ≤ least) (hF0 : 0 ≤ F) (hF : F ≤ 60) : ∀ (N : Nat) (n : List Node) (l : List Sample) (d : Int), 1001 + d.toNat < N → Wide l F → Tb l → Tb (l.map (shS δ)) → 1 ≤ l.length → l.length ≤ 60 → n.length + 2 ^ (d.toNat + 1) ≤ 1000000 → Vb n →
    ∃ t, grow_Grow N n l F d least = some t ∧ grow_Grow N (n.map (shN δ)) (l.map (shS δ)) F d least = some (t.map (shN δ)) ∧ n.length + 1 ≤ t.length ∧ t.length + 1 ≤ n.length + 2 ^ (d.toNat + 1) ∧ Vb t
  | 0, n, l, d, h, _, _, _, _, _, _, _ => by omega
  | N + 1, n, l, d, hN, hw, ht, ht2, hp, hl, hn, hv => by
    have ih := grow_sh (δ := δ) hl0 hF0 hF N
    rw [grow_Grow, grow_Grow]
    have hpow : 1 ≤ 2 ^ d.toNat := Nat.one_le_two_pow
    have hpow2 : 2 ^ (d.toNat + 1) = 2 * 2 ^ d.toNat := by rw [Nat.pow_succ]; omega
    have j1 : ∀ ft ct : Int, Sp l ft ct → ft < F → (0 ≤ ft → 0 < d) → ∃ t, grow_Grow_j1 N l n (grow_Grow N) F d least ft ct = some t ∧ grow_Grow_j1 N (l.map (shS δ)) (n.map (shN δ)) (grow_Grow N) F d least ft ct = some (t.map (shN δ)) ∧ n.length + 1 ≤ t.length ∧ t.length + 1 ≤ n.length + 2 ^ (d.toNat + 1) ∧ Vb t := by
      intro ft ct hsp hft hd
      unfold grow_Grow_j1
      by_cases hneg : ft < 0
      · simp only [hneg, decide_true, if_true]
        have b1 := tsum_bd ht
        have b2 := tsum_bd ht2
        rw [tsum_sh] at b2
        simp only [List.length_map] at b2
        rw [sum_ok ht (by omega) (by omega), sum_ok ht2 (by simpa using (by omega)) (by omega), tsum_sh]
        simp only [Option.bind_some, List.length_map]
        rw [floor_ok (by omega) (by omega) (by omega), floor_ok (by omega) (by omega) (by omega)]
        simp only [Option.bind_some]
        rw [app_ok _ _ (by simp [LIM]; omega), app_ok _ _ (by simp [LIM]; omega)]
        refine ⟨_, rfl, ?_, by simp, by simp; omega, hv.app _ (Int.le_ediv_of_mul_le (by omega) (by omega)) (Int.ediv_le_of_le_mul (by omega) (by omega))⟩
        simp only [Option.bind_some, List.map_append, List.map_cons, List.map_nil]
        congr 3
        simp only [shN, if_true]
        rw [Int.add_mul_ediv_right _ _ (by omega)]
      · have hft0 : 0 ≤ ft := by omega
        have hd0 := hd hft0
        obtain ⟨hs1, hs2⟩ := hsp.2 hft0
        simp only [hneg, decide_false, Bool.false_eq_true, if_false]
        rw [part_ok hw hft0 hft (by omega) (by omega), part_ok (wide_sh hw) hft0 hft (by simpa using (by omega)) (by omega), filter_sh, filter_sh2]
        have hlen := part_len l (lowP ft ct)
        have wA := hw.filter (lowP ft ct)
        have wB := hw.filter (fun s => !lowP ft ct s)
        have tA := ht.filter (lowP ft ct)
        have tB := ht.filter (fun s => !lowP ft ct s)
        have tA2 := shfilter ht2 (lowP ft ct)
        have tB2 := shfilter ht2 (fun s => !lowP ft ct s)
        generalize l.filter (lowP ft ct) = A at *
        generalize l.filter (fun s => !lowP ft ct s) = B at *
        simp only [Option.bind_some, List.length_map]
        rw [app_ok _ _ (by simp [LIM]; omega), app_ok _ _ (by simp [LIM]; omega)]
        simp only [Option.bind_some]
        have ed : w64 (d - 1) = d - 1 ∨ 1000 < d := by
          by_cases h : 1000 < d
          · exact .inr h
          · exact .inl (w64_id (by omega) (by omega))
        have hd5 : w64 (d - 1) = d - 1 := by
          rcases ed with h | h
          · exact h
          · exfalso
            have : 2 ^ 20 ≤ 2 ^ (d.toNat + 1) := Nat.pow_le_pow_right (by omega) (by omega)
            omega
        have edn : (d - 1).toNat + 1 = d.toNat := by omega
        have hin : [Node.mk ft ct (w64 ((n.length : Int) + 1)) 0 (decide ((A.length : Int) > (B.length : Int))) 0] = [Node.mk ft ct (w64 ((n.length : Int) + 1)) 0 (decide ((A.length : Int) > (B.length : Int))) 0].map (shN δ) := by
          simp only [List.map_cons, List.map_nil, shN]
          rw [if_neg (by show ¬ ft = -1; omega)]
        obtain ⟨t1, g1, g2, g3, g4, g5⟩ := ih (n ++ [Node.mk ft ct (w64 ((n.length : Int) + 1)) 0 (decide ((A.length : Int) > (B.length : Int))) 0]) A (d - 1) (by omega) wA tA tA2 hs1 (by omega) (by simp only [List.length_append, List.length_cons, List.length_nil, edn]; omega) (hv.app _ (by simp) (by simp))
        rw [List.map_append, ← hin] at g2
        simp only [List.length_append, List.length_cons, List.length_nil, edn] at g3 g4
        rw [hd5, g1, g2]
        simp only [Option.bind_some]
        rw [ix_get t1 n.length (by omega), ix_get (t1.map (shN δ)) n.length (by simp; omega)]
        simp only [Option.bind_some, List.getElem_map, Int.toNat_natCast, List.length_map]
        rw [← map_set_sh δ t1 n.length t1[n.length] _ (by omega) rfl]
        obtain ⟨t2, k1, k2, k3, k4, k5⟩ := ih (t1.set n.length { t1[n.length] with right := (t1.length : Int) }) B (d - 1) (by omega) wB tB tB2 hs2 (by omega) (by simp only [List.length_set, edn]; omega) (g5.set _ (by omega) _)
        simp only [List.length_set, edn] at k3 k4
        rw [k1, k2]
        exact ⟨t2, rfl, rfl, by omega, by omega, k5⟩
    by_cases hd : d > 0
    · simp only [hd, decide_true, if_true]
      obtain ⟨r, r1, r2, r3, r4⟩ := best_sh (N := N) (δ := δ) (by omega) hw ht ht2 hl hl0 hF0 hF hp
      rw [r1, r2]
      simp only [Option.bind_some]
      exact j1 r.1 r.2 r3 r4 (fun _ => hd)
    · simp only [hd, decide_false, Bool.false_eq_true, if_false]
      exact j1 (-1) 0 ⟨by omega, fun h => by omega⟩ (by omega) (fun h => by omega)

/-- the list that is shifted -/
theorem shift_l (N : Nat) (l : List Sample) (δ a b c : Int) (r : List Node × Option Int) (h : Tb l) (hl : l.length ≤ 60) (hd : -2000 ≤ δ) (hd2 : δ ≤ 2000) : ∀ (n i : Nat) (m : List Sample), i ≤ l.length → l.length - i < n → m.length ≤ i →
    orchlaw4_GrowShifts_l2 N l δ a b c r n m (i : Int) = orchlaw4_GrowShifts_j1 N a b c r δ (m ++ (l.drop i).map (shS δ))
  | 0, i, m, _, _, _ => by omega
  | n + 1, i, m, h1, h2, h3 => by
    rw [orchlaw4_GrowShifts_l2]
    by_cases hi : i < l.length
    · have hi' : (i : Int) < (l.length : Int) := by omega
      have hb := h l[i] (List.getElem_mem hi)
      simp only [hi', decide_true, if_true, ix_get l i hi, Option.bind_some, w64_succ i (by omega)]
      rw [app_ok _ _ (by simp [LIM]; omega)]
      simp only [Option.bind_some]
      rw [shift_l N l δ a b c r h hl hd hd2 n (i + 1) _ (by omega) (by omega) (by simp; omega), List.drop_eq_getElem_cons hi, w64_id (by omega) (by omega)]
      generalize List.drop (i + 1) l = m
      simp [shS]
    · have hi' : ¬ (i : Int) < (l.length : Int) := by omega
      simp only [hi', decide_false, Bool.false_eq_true, if_false]
      rw [List.drop_eq_nil_of_le (by omega)]
      simp

theorem same_l (N : Nat) (t : List Node) (e e' : Option Int) (δ : Int) (h : Vb t) (hl : t.length ≤ 1000) (hd : -2000 ≤ δ) (hd2 : δ ≤ 2000) : ∀ (n i : Nat), i ≤ t.length → t.length - i < n →
    orchlaw4_GrowShifts_l1 N (t.map (shN δ), e') (t, e) δ n (i : Int) = some true
  | 0, i, _, _ => by omega
  | n + 1, i, h1, h2 => by
    rw [orchlaw4_GrowShifts_l1]
    by_cases hi : i < t.length
    · have hi' : (i : Int) < ((t.map (shN δ)).length : Int) := by simp; omega
      have hb := h t[i] (List.getElem_mem hi)
      simp only [hi', decide_true, if_true, ix_get t i hi, Option.bind_some]
      have ih := same_l N t e e' δ h hl hd hd2 n (i + 1) (by omega) (by omega)
      have j3 : ∀ v, (shN δ t[i]) = Node.mk t[i].feature t[i].cut t[i].left t[i].right t[i].less v → orchlaw4_GrowShifts_j3 N (t.map (shN δ), e') (i : Int) t[i] (orchlaw4_GrowShifts_l1 N (t.map (shN δ), e') (t, e) δ n) v = some true := by
        intro v hv
        unfold orchlaw4_GrowShifts_j3
        rw [ix_get (t.map (shN δ)) i (by simp; omega)]
        simp only [Option.bind_some, List.getElem_map, hv]
        rw [if_neg (by simp [eqNode]), w64_succ i (by omega)]
        exact ih
      by_cases hf : t[i].feature = -1
      · rw [if_pos (by simp [hf])]
        refine j3 _ ?_
        rw [w64_id (by omega) (by omega)]
        simp [shN, hf]
      · rw [if_neg (by simp [hf])]
        refine j3 _ ?_
        simp [shN, hf]
    · have hi' : ¬ (i : Int) < ((t.map (shN δ)).length : Int) := by simp; omega
      simp only [hi', decide_false, Bool.false_eq_true, if_false, orchlaw4_GrowShifts_j2]

theorem main (N : Nat) (hN : 1100 < N) (hfact : grow_Fit N [(Sample.mk [1] 5), (Sample.mk [2] 9)] 1 1 1 = some ([⟨0,2,1,2,false,0⟩,⟨-1,0,0,0,false,5⟩,⟨-1,0,0,0,false,9⟩], none)) (l : List Sample) (F d least δ : Int) : orchlaw4_GrowShifts N l F d least δ = some true := by
  unfold orchlaw4_GrowShifts
  rw [hfact]
  simp only [Option.bind_some]
  rw [show (gd (!((none : Option Int).isSome || (([⟨0,2,1,2,false,0⟩,⟨-1,0,0,0,false,5⟩,⟨-1,0,0,0,false,9⟩] : List Node).length : Int) != 3)) (ix ([⟨0,2,1,2,false,0⟩,⟨-1,0,0,0,false,5⟩,⟨-1,0,0,0,false,9⟩] : List Node) 1) (Node.mk 0 0 0 0 false 0)) = some ⟨-1,0,0,0,false,5⟩ from rfl]
  simp only [Option.bind_some]
  rw [if_neg (by decide)]
  obtain ⟨k, e, hk, hke⟩ := check_tot (N := N) (by omega) l F
  cases e with
  | some e => rw [fit_err hk]; simp
  | none =>
    by_cases hb : 0 ≤ d ∧ d ≤ 5 ∧ 1 ≤ least ∧ least ≤ 60
    · obtain ⟨h1, h2, h3, h4, h5⟩ := hke rfl
      have hw : Wide l F := fun s hs => (h5 s hs).1
      have ht : Tb l := fun s hs => (h5 s hs).2
      have hd25 : 2 ^ (d.toNat + 1) ≤ 2 ^ 6 := Nat.pow_le_pow_right (by omega) (by omega)
      obtain ⟨t0, hg, -, -, -, -⟩ := grow_sh (δ := 0) hb.2.2.1 h3 (by omega) N [] l d (by omega) hw ht (by
        have : l.map (shS 0) = l := by
          conv => rhs; rw [← List.map_id l]
          refine List.map_congr_left fun s _ => ?_
          simp [shS]
        rw [this]; exact ht) h1 h2 (by simp; omega) (by intro x hx; simp at hx)
      rw [fit_eq hk hb, hg]
      simp only [Option.bind_some, Option.isSome_none, Bool.false_or]
      by_cases hδ : (decide (δ < -2000) || decide (δ > 2000)) = true
      · rw [if_pos hδ]
      · rw [if_neg hδ]
        simp only [Bool.or_eq_true, decide_eq_true_eq, not_or] at hδ
        have hs := shift_l N l δ F d least (t0, none) ht h2 (by omega) (by omega) N 0 [] (by omega) (by omega) (by simp)
        simp only [List.drop_zero, List.nil_append, Int.cast_ofNat_Int] at hs
        rw [hs]
        unfold orchlaw4_GrowShifts_j1
        obtain ⟨k', e', hk', hke'⟩ := check_tot (N := N) (by omega) (l.map (shS δ)) F
        cases e' with
        | some e' => rw [fit_err hk']; simp [hk']
        | none =>
          obtain ⟨g1, g2, g3, g4, g5⟩ := hke' rfl
          have ht2 : Tb (l.map (shS δ)) := fun s hs => (g5 s hs).2
          obtain ⟨t, ha, hb2, hc, hd2, hv⟩ := grow_sh (δ := δ) hb.2.2.1 h3 (by omega) N [] l d (by omega) hw ht ht2 h1 h2 (by simp; omega) (by intro x hx; simp at hx)
          rw [hg] at ha
          cases ha
          simp only [List.map_nil] at hb2
          rw [fit_eq hk' hb, hb2]
          simp only [Option.bind_some, Option.isSome_none, Bool.false_eq_true, if_false, List.length_map]
          rw [if_neg (by simp)]
          simp only [List.length_nil] at hd2
          exact same_l N t0 none none δ hv (by omega) (by omega) (by omega) N 0 (by omega) (by omega)
    · rw [fit_bad hk hb]; simp

theorem law_true (l : List Sample) (F d least δ : Int) : ∃ N, orchlaw4_GrowShifts N l F d least δ = some true :=
  ⟨2000, main 2000 (by omega) (by kernel_rfl) l F d least δ⟩
end Go.Dl.GS
namespace Go.Dl
theorem law_GrowShifts (l : List Sample) (a b c d : Int) (h0 : okLSample l) (h1 : okI a) (h2 : okI b) (h3 : okI c) (h4 : okI d) : ∃ N, orchlaw4_GrowShifts N l a b c d = some true := GS.law_true l a b c d
end Go.Dl
