/- The data level, tenth text: joins and loops as the generator prints them. -/
import Derived.Test.YtbalmknhjokgaaaDlMore
set_option linter.unusedVariables false
namespace Go.Dl
open Go Go.RowKit

section
variable {P : Program} {ops : Array Oper} {Q : Exit → Act → World → Prop} {rest : List Oper} {x : Cx} {S S' : List (Nat × SV)} {O O' : List (Nat × Ob)} {d : Option Nat} {ty : TypeId} {pos : String} {aft : Array Edge} {g : Option (Nat × Bool)}

theorem cw_join {a b : Code} (J : List (Nat × SV) → List (Nat × Ob) → Prop) (hb : ∀ S O, J S O → Cw P b Q x S O)
    (ha : ∀ K, (∀ S O, J S O → Kx K x S O) → Cw P a (Exit.then K Q) x S O) : Cw P (Code.seq a b) Q x S O :=
  cw_seq fun K hK => ha K fun S O h => hK S O (hb S O h)

theorem cw_loopJ {c : Code} (F : Nat → List (Nat × SV) → List (Nat × Ob) → Prop) (h0 : ∀ S O, ¬ F 0 S O)
    (step : ∀ n S O, F (n + 1) S O → ∀ K, (∀ S' O', F n S' O' → Kx K x S' O') → Cw P c (Exit.then K Q) x S O) (n : Nat) (h : F n S O) : Cw P (Code.loop c) Q x S O := fun a w hs => by
  refine wp_loop_rounds n ?_
  induction n generalizing S O a w with
  | zero => exact (h0 S O h).elim
  | succ n ih =>
    rw [rounds_succ]
    exact step n S O h _ (fun S' O' h' a' w' hs' => ih h' a' w' hs') a w hs

theorem OpX.named {o : Oper} {k : IntKind} {e v : Int} {p : Nat → Bool} (hv : some e = some v) (h : OpX P x S O o (IK k e) O' p) : OpX P x S O o (IK k v) O' p := by cases hv; exact h
theorem OpX.namedB {o : Oper} {e v : Bool} {p : Nat → Bool} (hv : some e = some v) (h : OpX P x S O o (B e) O' p) : OpX P x S O o (B v) O' p := by cases hv; exact h

theorem one_c {i : It} : ∀ w G V u, (SV.c i).holds w G V u → (∀ e ∈ O, e.2.holds w G V (V e.1)) → u.oneCell' = true := fun w G V u h _ => i.r.one (show i.r.rd w G u i.d from h)

/-- the nil slice stands for the row that an argument names -/
def nilA (k : Nat) : SV → SV
  | .ref j => if j == k then .raw (.slice none 0 0) else .ref j
  | s => s
end
section
variable {P : Program}
def nilOk (k : Nat) : SV → Bool
  | .ref _ => true
  | s => s.ok (butp k)
theorem nilA_holds {w : World} {G : Good} {V : Nat → Value} {k : Nat} : ∀ (s : SV) (v : Value), nilOk k s = true → (nilA k s).holds w G V v → s.holds w G (setV V k (.slice none 0 0)) v
  | .ref j, v, _, h => by
    by_cases hj : j = k
    · subst hj
      have h' : v = .slice none 0 0 := by simpa [nilA, SV.holds] using h
      show v = setV V j _ j
      rw [setV_same, h']
    · have h' : v = V j := by simpa [nilA, hj, SV.holds] using h
      show v = setV V k _ j
      rw [setV_ne hj, h']
  | .c i, v, hk, h | .agg l, v, hk, h | .ptr l, v, hk, h | .pt _ _, v, hk, h | .raw _, v, hk, h | .hdr _, v, hk, h | .cd _ _, v, hk, h | .tup _, v, hk, h | .clo _ _, v, hk, h =>
    SV.holds_mono (p := butp k) (fun _ _ => rfl) (fun _ h => h) setV_but _ v hk h
theorem nilA_holdsL {w : World} {G : Good} {V : Nat → Value} {k : Nat} : ∀ (l : List SV) (vs : List Value), (l.all (nilOk k)) = true → SV.holdsL w G V (l.map (nilA k)) vs → SV.holdsL w G (setV V k (.slice none 0 0)) l vs
  | [], vs, _, h => h
  | s :: l, vs, hk, h => by
    obtain ⟨v, r, rfl, h1, h2⟩ := h
    simp only [List.all_cons, Bool.and_eq_true] at hk
    exact ⟨v, r, rfl, nilA_holds s v hk.1 h1, nilA_holdsL l r hk.2 h2⟩

theorem Fn.nilArg {f : FuncId} {as : List SV} {I R : List (Nat × Ob)} {res : SV} {k t n : Nat} {α : Type} {c : α → List It} (h : Fn P f as ((k, .row t n c []) :: I) res R)
    (ha : as.all (nilOk k) = true) (hI : freeO k I = true) : Fn P f (as.map (nilA k)) I res R := by
  intro w G V vs hs hv
  have hI' := freeO_spec hI
  have hbl : blks w (setV V k (.slice none 0 0)) ((k, .row t n c []) :: I) = blks w V I := by
    funext b; apply propext; constructor
    · rintro ⟨e, he, hb⟩
      rcases List.mem_cons.1 he with rfl | he
      · rw [setV_same] at hb; cases hb
      · rw [setV_ne (hI' e he).1] at hb; exact ⟨e, he, hb⟩
    · rintro ⟨e, he, hb⟩
      exact ⟨e, List.mem_cons_of_mem _ he, by rw [setV_ne (hI' e he).1]; exact hb⟩
  have h1 := h w G (setV V k (.slice none 0 0)) vs ?_ (nilA_holdsL as vs ha hv)
  · refine h1.mono ?_
    rintro e w' ⟨v, G', V', rfl, hs', hr, hi⟩
    refine ⟨v, G', V', rfl, ?_, hr, fun e he => ?_⟩
    · refine ⟨?_, hs'.good, hs'.g0, hs'.g1, hs'.obs, ?_, hs'.apart, hs'.gl⟩
      · have := hs'.up; simp only [outer] at this ⊢; rwa [hbl] at this
      · have := hs'.own; simp only [outer] at this ⊢; rwa [hbl] at this
    · rw [hi e (List.mem_cons_of_mem _ he), setV_ne (hI' e he).1]
  · have hs0 : Sep (outer w G (setV V k (.slice none 0 0)) ((k, .row t n c []) :: I)) w G (setV V k (.slice none 0 0)) I := by
      refine ⟨Upd.refl _ _, hs.good, fun _ h => h, fun _ h => .inl h, fun e he => ?_, fun e he b hb => ?_, fun e he e' he' hne b hb => ?_, hs.gl⟩
      · rw [setV_ne (hI' e he).1]
        exact Ob.mono (p := butp k) (fun _ _ => rfl) (fun _ h => h) setV_but e.2 (hI' e he).2 (fun _ _ => rfl) (hs.obs e he)
      · rw [setV_ne (hI' e he).1] at hb
        have := hs.own e he b hb
        refine ⟨this.1, this.2.1, ?_⟩
        simp only [outer] at this ⊢
        rw [hbl]; exact this.2.2
      · rw [setV_ne (hI' e he).1] at hb
        rw [setV_ne (hI' e' he').1]
        exact hs.apart e he e' he' hne b hb
    refine hs0.cons k _ ?_ ?_ ?_
    · rw [setV_same]
      exact ⟨[], .inl (World.ownsRow_nil _ _ _ _), trivial, by simp⟩
    · intro b hb; rw [setV_same] at hb; cases hb
    · intro e he b hb; rw [setV_same] at hb; cases hb
end
section
variable {P : Program} {x : Cx} {S S' : List (Nat × SV)} {O O' : List (Nat × Ob)} {d : Option Nat} {ty : TypeId} {pos : String} {aft : Array Edge} {g : Option (Nat × Bool)}
theorem OpX.keepAll {o : Oper} {sv : SV} {p : Nat → Bool} (h : OpX P x S O o sv O' p) (hp : ∀ k, p k = true) : OpX P x S O o sv O' allp := by
  have : p = allp := funext fun k => hp k
  rw [← this]; exact h
theorem op_call0 {f : FuncId} {es : List Operand} {ats : Array TypeId} {as : List SV} {res : SV} (hf : Fn P f as [] res []) (hc : callable P f = true) (ha : CanL S es as) (hr : res.ok (fun _ => false) = true := by rfl) :
    OpX P x S O ⟨d, .call { callee := .value (.func f), args := es.toArray, argTypes := ats }, ty, pos, aft, g⟩ res O allp := by
  have h := op_call (x := x) (O := O) (d := d) (ty := ty) (pos := pos) (aft := aft) (g := g) (ats := ats) hf hc ha [] rfl (by
    have : butO [] O = O := by unfold butO hasId; simp
    rw [this]
    refine List.all_eq_true.2 fun e _ => ?_
    have hk : keepP ([] : List (Nat × Ob)) [] = allp := by funext k; rfl
    rw [hk, Ob.ok_all]; rfl) rfl hr (by simp) rfl
  have e1 : [] ++ butO ([] : List (Nat × Ob)) O = O := by unfold butO hasId; simp
  have e2 : keepP ([] : List (Nat × Ob)) [] = allp := by funext k; rfl
  rw [e1, e2] at h
  exact h
theorem op_makeFunc {f : FuncId} {es : List Operand} {cl : List SV} (h : CanL S es cl) : OpX P x S O ⟨d, .makeFunc (.func f) #[] es.toArray, ty, pos, aft, g⟩ (.clo f cl) O allp := .pure fun a w G V _ hS =>
  ⟨.func (.func f) #[] (es.map a.eval).toArray, by simp [execOp, Instr.makeFunc], _, rfl, h.eval hS⟩
theorem holdsL_app {w : World} {G : Good} {V : Nat → Value} : ∀ {l m : List SV} {us vs : List Value}, SV.holdsL w G V l us → SV.holdsL w G V m vs → SV.holdsL w G V (l ++ m) (us ++ vs)
  | [], m, us, vs, h, k => by have : us = [] := h; subst this; exact k
  | s :: l, m, us, vs, h, k => by
    obtain ⟨v, r, rfl, h1, h2⟩ := h
    exact ⟨v, r ++ vs, rfl, h1, holdsL_app h2 k⟩
theorem run_callC {f : FuncId} (hc : callable P f = true) {e : Operand} {es : List Operand} {ats : Array TypeId} {a : Act} {w : World} {d : Option Nat} {ty : TypeId} {pos : String} {aft : Array Edge} {g : Option (Nat × Bool)} {caps : List Value} (he : a.eval e = .func (.func f) #[] caps.toArray) :
    (execOp a.eval ⟨d, .call { callee := .value e, args := es.toArray, argTypes := ats }, ty, pos, aft, g⟩).run P w = .ok (.enter f (es.map a.eval ++ caps).toArray) w := by
  unfold callable at hc
  cases hf : P.funcs[f]? with
  | none => simp [hf] at hc
  | some fn =>
    simp only [hf, Bool.and_eq_true, Bool.not_eq_true', Option.isSome_iff_exists] at hc
    obtain ⟨⟨b, hb⟩, hn⟩ := hc
    have hn' : (fn.name == "runtime.NumGoroutine") = false := hn
    simp [execOp, resolve, Deferred.ofValue, he, invoke, callFunc, hf, hb, hn', -beq_eq_false_iff_ne, -beq_iff_eq]
theorem op_callC {f : FuncId} {e : Operand} {es : List Operand} {ats : Array TypeId} {as cl : List SV} {res : SV} (hf : Fn P f (as ++ cl) [] res []) (hc : callable P f = true) (he : Can S e (.clo f cl)) (ha : CanL S es as) (hr : res.ok (fun _ => false) = true := by rfl) :
    OpX P x S O ⟨d, .call { callee := .value e, args := es.toArray, argTypes := ats }, ty, pos, aft, g⟩ res O allp := by
  have h := op_callG (x := x) (O := O) (S := S) (o := ⟨d, .call { callee := .value e, args := es.toArray, argTypes := ats }, ty, pos, aft, g⟩) hf (fun a w G V hS => by
    obtain ⟨caps, h1, h2⟩ := he.eval hS
    exact ⟨_, run_callC hc h1, holdsL_app (ha.eval hS) h2⟩) [] rfl (by
    have : butO [] O = O := by unfold butO hasId; simp
    rw [this]
    refine List.all_eq_true.2 fun e _ => ?_
    have hk : keepP ([] : List (Nat × Ob)) [] = allp := by funext k; rfl
    rw [hk, Ob.ok_all]; rfl) rfl hr (by simp) rfl
  have e1 : [] ++ butO ([] : List (Nat × Ob)) O = O := by unfold butO hasId; simp
  have e2 : keepP ([] : List (Nat × Ob)) [] = allp := by funext k; rfl
  rw [e1, e2] at h
  exact h
theorem OpY.to {ops : Array Oper} {o : Oper} {sv : SV} {p : Nat → Bool} {O1 O2 : List (Nat × Ob)} (h : OpY P ops x S O o sv O1 p) (e : O1 = O2) : OpY P ops x S O o sv O2 p := e ▸ h
theorem ex_doneV {w0 : World} {G0 : Good} {V0 : Nat → Value} {fn : Func} {I : List (Nat × Ob)} {res : SV} {N : Nat} {ids : List Nat} {e : Exit} {O : List (Nat × Ob)} (he : e = .ret ∨ e = .normal) (hids : I.map Prod.fst = ids)
    (hr : ∀ a w G V, Sep ⟨w0, blks w0 V0 I, G0, N, V0, ids, oldId⟩ w G V O → a.defers = [] → Slots N a w G V S → ∃ v, (results fn a.tmps).run P w = .ok v w ∧ res.holds w G V v) :
    Ex (bodyPost P fn (Done w0 G0 V0 I res [])) e ⟨w0, blks w0 V0 I, G0, N, V0, ids, oldId⟩ S O := by
  intro a w ⟨G, V, hs, hd, hN, hS, hI⟩
  obtain ⟨v, h1, h2⟩ := hr a w G V hs hd hS
  have h3 : Done w0 G0 V0 I res [] (.returned v) w :=
    ⟨v, G, V, rfl, ⟨hs.up, hs.good, hs.g0, hs.g1, by simp, by simp, by simp, hs.gl⟩, h2, fun e he => hI e.1 (by rw [← hids]; exact List.mem_map_of_mem he)⟩
  rcases he with rfl | rfl
  · exact ⟨hd, v, h1, h3⟩
  · exact ⟨hd, v, h1, h3⟩
end
end Go.Dl
