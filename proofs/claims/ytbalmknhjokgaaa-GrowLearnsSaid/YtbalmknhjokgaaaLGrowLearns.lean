/- Printed by wip/gen: the statement, from the walk and the plain law. -/
import Derived.Test.YtbalmknhjokgaaaRows
import Derived.Test.YtbalmknhjokgaaaDO
import Derived.Test.YtbalmknhjokgaaaPGrowLearns
import Derived.Test.YtbalmknhjokgaaaDW3
namespace Go.Proofs.Ytbalmknhjokgaaa.growLearnsDone
open Go.ChangeShapes Go.WideShapes Go.ChangeAt Go.RowKit Go.Dl
set_option linter.unusedVariables false

theorem own : ownKnob Try.prog.godebug = none := by kernel_rfl
theorem laidOut : laidOutB Try.prog = true := by kernel_rfl

set_option maxRecDepth 100000 in
theorem lifted (os : Os) (started : os.Started) (H : Type) (enc : TypeId × Value → H) :
    ReturnsInHanded {} Try.checked os 5 .any (Rows.growLearnsSpec.pre6 enc Try.prog Try.f5 Rows.growLearnsRow.domain false) (Rows.growLearnsSpec.post enc Try.prog Try.f5 false true false false) := by
  refine returnsInHanded_of_change (C := Try.checked) own started (by kernel_rfl) Try.func5
    (ChangeSpec.witness6 (enc := enc) (C := Try.checked) false ⟨#[], #[.slice none 0 0, .int .i64 0, .int .i64 0, .int .i64 0, .int .i64 0, .int .i64 0], []⟩ 8 (by kernel_rfl) (by kernel_rfl) (by kernel_rfl) (by kernel_rfl)) ?_
  intro W base args ds gs before hval0 hW hcnd _
  have hval : ∀ (j : Nat) t v, Try.f5.params[j]? = some t → args[j]? = some v → Value.okWide Try.prog W .any base t v := hval0
  have hW' := hW
  obtain ⟨p, q, hA0, hV, rfl, hfz, hnd⟩ := hW
  have hA : DataW.TrodAll enc Try.prog W 0 (fun _ => true) true Try.f5.params.toList args.toList ds p := hA0
  rw [Try.params5] at hA hval
  obtain ⟨v0, vs0, d0, ds0, p0, q0, hargs, rfl, rfl, h0, r0⟩ := trodAll_cons hA
  obtain ⟨v1, vs1, d1, ds1, p1, q1, rfl, rfl, rfl, h1, r1⟩ := trodAll_cons r0
  obtain ⟨v2, vs2, d2, ds2, p2, q2, rfl, rfl, rfl, h2, r2⟩ := trodAll_cons r1
  obtain ⟨v3, vs3, d3, ds3, p3, q3, rfl, rfl, rfl, h3, r3⟩ := trodAll_cons r2
  obtain ⟨v4, vs4, d4, ds4, p4, q4, rfl, rfl, rfl, h4, r4⟩ := trodAll_cons r3
  obtain ⟨v5, vs5, d5, ds5, p5, q5, rfl, rfl, rfl, h5, r5⟩ := trodAll_cons r4
  obtain ⟨rfl, rfl, rfl⟩ := trodAll_nil r5
  obtain rfl : args = #[v0, v1, v2, v3, v4, v5] := by cases args; simp_all
  obtain ⟨rfl, rfl⟩ := trodVars_none hV
  have k0 := h0
  have lt0 : ∀ x ∈ p0, x.block < W.heap.size := by obtain ⟨m, hm⟩ := k0; exact DataW.trod_lt m _ _ _ hm
  obtain ⟨y0, hy0, hr0⟩ : ∃ y, okLSample y ∧ cellsRd W (fun k => k < W.heap.size) v0.cells.toList ((fun y => [iSL 2 cSample y]) y) := by obtain ⟨fuel, hf⟩ := h0; exact op22.2.2 H enc W 0 _ _ fuel _ _ hf
  have k1 := h1
  have lt1 : ∀ x ∈ p1, x.block < W.heap.size := by obtain ⟨m, hm⟩ := k1; exact DataW.trod_lt m _ _ _ hm
  obtain ⟨y1, hy1, hr1⟩ : ∃ y, okI y ∧ cellsRd W (fun k => k < W.heap.size) v1.cells.toList ((fun y => [iI y]) y) := by obtain ⟨fuel, hf⟩ := h1; exact op3.2.2 H enc W 0 _ _ fuel _ _ hf
  have k2 := h2
  have lt2 : ∀ x ∈ p2, x.block < W.heap.size := by obtain ⟨m, hm⟩ := k2; exact DataW.trod_lt m _ _ _ hm
  obtain ⟨y2, hy2, hr2⟩ : ∃ y, okI y ∧ cellsRd W (fun k => k < W.heap.size) v2.cells.toList ((fun y => [iI y]) y) := by obtain ⟨fuel, hf⟩ := h2; exact op3.2.2 H enc W 0 _ _ fuel _ _ hf
  have k3 := h3
  have lt3 : ∀ x ∈ p3, x.block < W.heap.size := by obtain ⟨m, hm⟩ := k3; exact DataW.trod_lt m _ _ _ hm
  obtain ⟨y3, hy3, hr3⟩ : ∃ y, okI y ∧ cellsRd W (fun k => k < W.heap.size) v3.cells.toList ((fun y => [iI y]) y) := by obtain ⟨fuel, hf⟩ := h3; exact op3.2.2 H enc W 0 _ _ fuel _ _ hf
  have k4 := h4
  have lt4 : ∀ x ∈ p4, x.block < W.heap.size := by obtain ⟨m, hm⟩ := k4; exact DataW.trod_lt m _ _ _ hm
  obtain ⟨y4, hy4, hr4⟩ : ∃ y, okI y ∧ cellsRd W (fun k => k < W.heap.size) v4.cells.toList ((fun y => [iI y]) y) := by obtain ⟨fuel, hf⟩ := h4; exact op3.2.2 H enc W 0 _ _ fuel _ _ hf
  have k5 := h5
  have lt5 : ∀ x ∈ p5, x.block < W.heap.size := by obtain ⟨m, hm⟩ := k5; exact DataW.trod_lt m _ _ _ hm
  obtain ⟨y5, hy5, hr5⟩ : ∃ y, okI y ∧ cellsRd W (fun k => k < W.heap.size) v5.cells.toList ((fun y => [iI y]) y) := by obtain ⟨fuel, hf⟩ := h5; exact op3.2.2 H enc W 0 _ _ fuel _ _ hf
  obtain ⟨a0, len0, cap0, rfl⟩ := okWide_slice uo22 (hval 0 22 v0 rfl rfl)
  obtain ⟨a1, rfl⟩ := okWide_int uo3 (hval 1 3 v1 rfl rfl)
  obtain ⟨a2, rfl⟩ := okWide_int uo3 (hval 2 3 v2 rfl rfl)
  obtain ⟨a3, rfl⟩ := okWide_int uo3 (hval 3 3 v3 rfl rfl)
  obtain ⟨a4, rfl⟩ := okWide_int uo3 (hval 4 3 v4 rfl rfl)
  obtain ⟨a5, rfl⟩ := okWide_int uo3 (hval 5 3 v5 rfl rfl)
  obtain ⟨N, hN⟩ := law_GrowLearns y0 y1 y2 y3 y4 y5 hy0 hy1 hy2 hy3 hy4 hy5
  have hw := Fn.law (w := W) (vs := [.slice a0 len0 cap0, .int .i64 a1, .int .i64 a2, .int .i64 a3, .int .i64 a4, .int .i64 a5]) (gl0 W _) (f5_fn N y0 y1 y2 y3 y4 y5 true hN) ⟨_, _, rfl, hr0.1, ⟨_, _, rfl, hr1.1, ⟨_, _, rfl, hr2.1, ⟨_, _, rfl, hr3.1, ⟨_, _, rfl, hr4.1, ⟨_, _, rfl, hr5.1, rfl⟩⟩⟩⟩⟩⟩ (R := fun v => v = .bool true) (fun _ _ _ _ h => h)
  clear hA0 hval0
  refine hw.mono fun e W' ⟨⟨v, he, hv⟩, bel⟩ => ?_
  subst hv
  subst he
  exact ⟨_, rfl, _, _, _, [], _, [], hW', trodAll_mk1 (shut_bool uo4 _), (trodAll_cons_mk (Below.trod laidOut rr22 rl22 k0 bel lt0) (trodAll_cons_mk (Below.trod laidOut rr3 rl3 k1 bel lt1) (trodAll_cons_mk (Below.trod laidOut rr3 rl3 k2 bel lt2) (trodAll_cons_mk (Below.trod laidOut rr3 rl3 k3 bel lt3) (trodAll_cons_mk (Below.trod laidOut rr3 rl3 k4 bel lt4) (trodAll_cons_mk (Below.trod laidOut rr3 rl3 k5 bel lt5) trodAll_mk0)))))), rfl, bel.frame _, fun h => by cases h⟩

theorem over : Rows.growLearnsRow.holds Try.pinned (OpenSpec.ofChange Rows.growLearnsSpec) :=
  OpenClaim.holds_of_wide 5 Try.f5 rfl rfl rfl rfl rfl rfl rfl ⟨rfl, rfl, rfl, rfl, rfl⟩ rfl rfl rfl rfl rfl (by kernel_rfl) Try.func5 (by kernel_rfl)
    (of_decide_eq_true (by kernel_rfl)) (by unfold Func.isWrapper; first | (rw [if_pos (by decide +kernel)]; kernel_rfl) | (rw [if_neg (by decide +kernel)]; exact ⟨rfl, rfl⟩))
    (fun os started H enc _ => lifted os started H enc)

/-- the statement -/
theorem proved : Rows.GrowLearnsSaid := over
end Go.Proofs.Ytbalmknhjokgaaa.growLearnsDone
