/- Printed by wip/gen: the statement, from the walk and the plain law. -/
import Derived.Test.YtbalmknhjokgaaaDoorRows
import Derived.Test.YtbalmknhjokgaaaDoorDO
import Derived.Test.YtbalmknhjokgaaaDoorPGrowTells
import Derived.LaidLaws
import Derived.LaidHandle
import Derived.ChangeSame
import Derived.ChangeVars
import Derived.JoinedOf
import Derived.Stop.Joined
import Derived.Test.YtbalmknhjokgaaaDoorCards
import Derived.Test.YtbalmknhjokgaaaDoorTie
import Derived.SevenTiedAt
import Derived.Test.YtbalmknhjokgaaaDoorDW4
namespace Go.Proofs.YtbalmknhjokgaaaDoor.growTellsDone
open Go.ChangeShapes Go.WideShapes Go.ChangeAt Go.RowKit Go.Dl
set_option linter.unusedVariables false

theorem et : Tryd.prog.globalNamed "errors.errorType" = some 0 := by kernel_rfl
theorem rt : (Tryd.prog.cutTypes.find? (·.1 == "internal/reflectlite.rtype")).map (·.2) = some 277 := by kernel_rfl
theorem oneRow : ((List.range 370).filter fun t => Tryd.prog.rowNamed t [101, 114, 114, 111, 114]) = [32] := by kernel_rfl
theorem tsize : Tryd.prog.types.size = 370 := by kernel_rfl
/-- what the condition gives a walk: the variable's one cell -/
theorem handle_of_laid {W : World} (h : laidMetH Tryd.prog Rows.growTellsRow.laid W) : W.cell? ⟨0, 0, none⟩ = some (.iface 277 (.agg #[.pointer (some ⟨9, 32, none⟩)])) := by
  have h' : laidMet Tryd.prog [] W ∧ handlesMet Tryd.prog Rows.growTellsRow.laid W := h
  obtain ⟨name, u, ty, e1, e2, e3, e4, e5⟩ := h'.2 _ (List.mem_singleton.2 rfl)
  have en : name = [101, 114, 114, 111, 114] := (Option.some.inj e1).symm
  subst en
  obtain rfl := Option.some.inj (rt.symm.trans e2)
  have hm : ty ∈ (List.range 370).filter fun t => Tryd.prog.rowNamed t [101, 114, 114, 111, 114] := List.mem_filter.2 ⟨List.mem_range.2 (by rw [← tsize]; exact e3), e4⟩
  rw [oneRow] at hm
  obtain rfl := List.mem_singleton.1 hm
  have hh : typeHandle Tryd.prog 32 = .pointer (some ⟨9, 32, none⟩) := by kernel_rfl
  rw [hh] at e5
  simpa using World.var?_cell et e5 0
/-- a world that meets the condition -/
noncomputable def laidWorld (os : Os) : World :=
  let w0 := World.holding Tryd.prog os ⟨#[], #[], []⟩
  { w0 with heap := w0.heap.modify 0 fun
      | .cells _ t frozen => .cells #[.iface 277 (.agg #[.pointer (some ⟨9, 32, none⟩)])] t frozen
      | o => o }
theorem laidWorld_met (os : Os) (args : Array Value) : laidMetH Tryd.prog Rows.growTellsRow.laid ((laidWorld os).forCall (fun _ _ => 0) ⟨#[], args, []⟩).memory :=
  laidMetH_of_parts (laidMet_nil _ _) (by kernel_rfl)
theorem gl_laid (W : World) (h : laidMetH Tryd.prog Rows.growTellsRow.laid W) : Gl W (fun k => k < W.heap.size) := by
  have hc := handle_of_laid h
  intro e he
  simp only [gls, List.mem_singleton] at he
  subst he
  exact ⟨cell_lt hc, hc⟩


theorem own : ownKnob Tryd.prog.godebug = none := by kernel_rfl
theorem laidOut : laidOutB Tryd.prog = true := by kernel_rfl

set_option maxRecDepth 100000 in
theorem lifted (os : Os) (started : os.Started) (H : Type) (enc : TypeId × Value → H) :
    ReturnsInHanded {} Tryd.checked os 7 .any (fun w args => (Rows.growTellsSpec.pre enc Tryd.prog Tryd.f7 [] false w args ∧ laidMetH Tryd.prog Rows.growTellsRow.laid w) ∧ sizedMet enc Tryd.prog Tryd.f7 (OpenSpec.ofChange Rows.growTellsSpec) false w args)
      (Rows.growTellsSpec.post enc Tryd.prog Tryd.f7 false true false false) := by
  refine returnsInHanded_of_change_and (C := Tryd.checked) (X := fun w _ => laidMetH Tryd.prog Rows.growTellsRow.laid w) (fun _ _ _ hh h => h.of_heap hh) own started (by kernel_rfl) Tryd.func7
    (ChangeSpec.witness_at (enc := enc) (C := Tryd.checked) (os := os) (X := fun w _ => laidMetH Tryd.prog Rows.growTellsRow.laid w) false (laidWorld os) #[.slice none 0 0, .int .i64 0, .int .i64 0, .int .i64 0, .slice none 0 0] 8 rfl (by kernel_rfl) (by kernel_rfl) (by kernel_rfl) (by kernel_rfl) (by kernel_rfl) (laidWorld_met os _)) ?_
  intro W base args ds gs before hval0 hW _ _ hL _
  have hval : ∀ (j : Nat) t v, Tryd.f7.params[j]? = some t → args[j]? = some v → Value.okWide Tryd.prog W .any base t v := hval0
  have hW' := hW
  obtain ⟨p, q, hA0, hV, rfl, hfz, hnd⟩ := hW
  have hA : DataW.TrodAll enc Tryd.prog W 0 (fun _ => true) true Tryd.f7.params.toList args.toList ds p := hA0
  rw [Tryd.params7] at hA hval
  obtain ⟨v0, vs0, d0, ds0, p0, q0, hargs, rfl, rfl, h0, r0⟩ := trodAll_cons hA
  obtain ⟨v1, vs1, d1, ds1, p1, q1, rfl, rfl, rfl, h1, r1⟩ := trodAll_cons r0
  obtain ⟨v2, vs2, d2, ds2, p2, q2, rfl, rfl, rfl, h2, r2⟩ := trodAll_cons r1
  obtain ⟨v3, vs3, d3, ds3, p3, q3, rfl, rfl, rfl, h3, r3⟩ := trodAll_cons r2
  obtain ⟨v4, vs4, d4, ds4, p4, q4, rfl, rfl, rfl, h4, r4⟩ := trodAll_cons r3
  obtain ⟨rfl, rfl, rfl⟩ := trodAll_nil r4
  obtain rfl : args = #[v0, v1, v2, v3, v4] := by cases args; simp_all
  obtain ⟨rfl, rfl⟩ := trodVars_none hV
  have k0 := h0
  have lt0 : ∀ x ∈ p0, x.block < W.heap.size := by obtain ⟨m, hm⟩ := k0; exact DataW.trod_lt m _ _ _ hm
  obtain ⟨y0, hy0, hr0⟩ : ∃ y, okLSample y ∧ cellsRd W (fun k => k < W.heap.size) v0.cells.toList ((fun y => [iSL 2 cSample y]) y) := by obtain ⟨fuel, hf⟩ := h0; exact op50.2.2 H enc W 0 _ _ fuel _ _ hf
  have k1 := h1
  have lt1 : ∀ x ∈ p1, x.block < W.heap.size := by obtain ⟨m, hm⟩ := k1; exact DataW.trod_lt m _ _ _ hm
  obtain ⟨y1, hy1, hr1⟩ : ∃ y, okI y ∧ cellsRd W (fun k => k < W.heap.size) v1.cells.toList ((fun y => [iI y]) y) := by obtain ⟨fuel, hf⟩ := h1; exact op3.2.2 H enc W 0 _ _ fuel _ _ hf
  have k2 := h2
  have lt2 : ∀ x ∈ p2, x.block < W.heap.size := by obtain ⟨m, hm⟩ := k2; exact DataW.trod_lt m _ _ _ hm
  obtain ⟨y2, hy2, hr2⟩ : ∃ y, okI y ∧ cellsRd W (fun k => k < W.heap.size) v2.cells.toList ((fun y => [iI y]) y) := by obtain ⟨fuel, hf⟩ := h2; exact op3.2.2 H enc W 0 _ _ fuel _ _ hf
  have k3 := h3
  have lt3 : ∀ x ∈ p3, x.block < W.heap.size := by obtain ⟨m, hm⟩ := k3; exact DataW.trod_lt m _ _ _ hm
  obtain ⟨y3, hy3, hr3⟩ : ∃ y, okI y ∧ cellsRd W (fun k => k < W.heap.size) v3.cells.toList ((fun y => [iI y]) y) := by obtain ⟨fuel, hf⟩ := h3; exact op3.2.2 H enc W 0 _ _ fuel _ _ hf
  have k4 := h4
  have lt4 : ∀ x ∈ p4, x.block < W.heap.size := by obtain ⟨m, hm⟩ := k4; exact DataW.trod_lt m _ _ _ hm
  obtain ⟨y4, hy4, hr4⟩ : ∃ y, okLNode y ∧ cellsRd W (fun k => k < W.heap.size) v4.cells.toList ((fun y => [iSL 6 cNode y]) y) := by obtain ⟨fuel, hf⟩ := h4; exact op29.2.2 H enc W 0 _ _ fuel _ _ hf
  obtain ⟨a0, len0, cap0, rfl⟩ := okWide_slice uo50 (hval 0 50 v0 rfl rfl)
  obtain ⟨a1, rfl⟩ := okWide_int uo3 (hval 1 3 v1 rfl rfl)
  obtain ⟨a2, rfl⟩ := okWide_int uo3 (hval 2 3 v2 rfl rfl)
  obtain ⟨a3, rfl⟩ := okWide_int uo3 (hval 3 3 v3 rfl rfl)
  obtain ⟨a4, len4, cap4, rfl⟩ := okWide_slice uo29 (hval 4 29 v4 rfl rfl)
  obtain ⟨N, hN⟩ := law_GrowTells y0 y1 y2 y3 y4 hy0 hy1 hy2 hy3 hy4
  have hw := Fn.law (w := W) (vs := [.slice a0 len0 cap0, .int .i64 a1, .int .i64 a2, .int .i64 a3, .slice a4 len4 cap4]) (gl_laid W hL) (f7_fn N y0 y1 y2 y3 y4 true hN) ⟨_, _, rfl, hr0.1, ⟨_, _, rfl, hr1.1, ⟨_, _, rfl, hr2.1, ⟨_, _, rfl, hr3.1, ⟨_, _, rfl, hr4.1, rfl⟩⟩⟩⟩⟩ (R := fun v => v = .bool true) (fun _ _ _ _ h => h)
  clear hA0 hval0
  refine hw.mono fun e W' ⟨⟨v, he, hv⟩, bel⟩ => ?_
  subst hv
  subst he
  exact ⟨_, rfl, _, _, _, [], _, [], hW', trodAll_mk1 (shut_bool uo4 _), (trodAll_cons_mk (Below.trod laidOut rr50 rl50 k0 bel lt0) (trodAll_cons_mk (Below.trod laidOut rr3 rl3 k1 bel lt1) (trodAll_cons_mk (Below.trod laidOut rr3 rl3 k2 bel lt2) (trodAll_cons_mk (Below.trod laidOut rr3 rl3 k3 bel lt3) (trodAll_cons_mk (Below.trod laidOut rr29 rl29 k4 bel lt4) trodAll_mk0))))), rfl, bel.frame _, fun h => by cases h⟩

theorem over : Rows.growTellsRow.holds Tryd.pinned (OpenSpec.ofChange Rows.growTellsSpec) :=
  OpenClaim.holds_of_wide 7 Tryd.f7 rfl rfl rfl rfl rfl rfl rfl ⟨rfl, rfl, rfl, rfl, rfl⟩ rfl rfl rfl rfl rfl (by kernel_rfl) Tryd.func7 (by kernel_rfl)
    (of_decide_eq_true (by kernel_rfl)) (by unfold Func.isWrapper; first | (rw [if_pos (by decide +kernel)]; kernel_rfl) | (rw [if_neg (by decide +kernel)]; exact ⟨rfl, rfl⟩))
    (fun os started H enc _ => lifted os started H enc)

/-- the statement -/
theorem row : Rows.GrowTellsSaid := over
theorem proved : Rows.GrowTellsCardSaid :=
  Claim7.holds_tied_plain_at .later [] [.handle] true (true, "ba4130ed81c4b6c849ba2a82147886cd40b81b94e361accd306c023bf21e75c5") true
    row (fun _ h => by cases h) (by kernel_rfl) (fun _ h => by cases h) growTells_row_tie rfl ⟨rfl, rfl⟩ (by kernel_rfl) rfl
    (fun f fn hf hfn => by
      obtain rfl : f = 7 := Option.some.inj ((show Tryd.prog.funcNamed "orchardry/orchlaw2.GrowTells" = some 7 by kernel_rfl).symm.trans hf) |>.symm
      obtain rfl : fn = Tryd.f7 := (Option.some.inj (Tryd.func7.symm.trans hfn)).symm
      exact ⟨by kernel_rfl, fun j t ht => by
        rw [Tryd.params7] at ht
        have ht : t ∈ [50, 3, 3, 3, 29] := by
          have := Array.mem_of_getElem? ht
          simpa using this
        have key : ∀ t ∈ [50, 3, 3, 3, 29], Tryd.prog.wantsStandIn t = false := by
          intro t ht
          simp only [List.mem_cons, List.not_mem_nil, or_false] at ht
          rcases ht with rfl | rfl | rfl | rfl | rfl <;> kernel_rfl
        exact key t ht⟩)
    (by kernel_rfl)
end Go.Proofs.YtbalmknhjokgaaaDoor.growTellsDone
