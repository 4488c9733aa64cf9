/- The data level, second text: how the state goes from one operation to the next. -/
import Derived.Test.YtbalmknhjokgaaaDl
set_option linter.unusedVariables false
namespace Go.Dl
open Go Go.RowKit

theorem block_lt {w : World} {k : Nat} {o : Obj} (h : w.heap[k]? = some o) : k < w.heap.size := (Array.getElem?_eq_some_iff.1 h).1

theorem ownsRow_blk {w : World} {t : TypeId} {n : Nat} {v : Value} {m : Nat} {xs : List Value} (h : w.ownsRow 0 t n v m xs) : ∀ b, blk v = some b → v.ownBlock = some b ∧ b < w.heap.size := by
  intro b hb
  rcases h.2 with ⟨rfl, _⟩ | ⟨g, cap, cur, rfl, _, hg, _⟩
  · simp [blk] at hb
  · simp only [blk, Option.some.injEq] at hb
    subst hb
    exact ⟨rfl, block_lt hg⟩

theorem ownsRow_same {w w' : World} {t : TypeId} {n : Nat} {v : Value} {m : Nat} {xs : List Value} (h : ownsR w t n v m xs) (hb : ∀ b, blkR v = some b → w'.heap[b]? = w.heap[b]?) : ownsR w' t n v m xs := by
  rcases h with h | h
  · have h1 := h.1
    rcases h.2 with hn | ⟨g, cap, cur, rfl, hbb, hg, hle, rest⟩
    · exact .inl ⟨h.1, .inl hn⟩
    · by_cases hc : cap = 0
      · subst hc
        have hm : m = 0 := by omega
        subst hm
        exact .inr ⟨rfl, List.eq_nil_of_length_eq_zero (by simpa using h1), _, rfl⟩
      · exact .inl ⟨h.1, .inr ⟨g, cap, cur, rfl, hbb, by rw [hb g (blkR_mk (by omega))]; exact hg, hle, rest⟩⟩
  · exact .inr h

theorem cellsSV.mono {w w' : World} {G G' : Good} {V V' : Nat → Value} {p : Nat → Bool} (h1 : ∀ k, G k → w'.heap[k]? = w.heap[k]?) (h2 : ∀ k, G k → G' k) (hV : ∀ k, p k = true → V' k = V k) :
    ∀ (l : List SV) (us : List Value), SV.ok.SV.okL p l = true → cellsSV w G V l us → cellsSV w' G' V' l us
  | [], _, _, h => h
  | s :: l, us, ho, h => by
    obtain ⟨u, r, hu, hs, h1c, hl⟩ := h
    simp only [SV.ok.SV.okL, Bool.and_eq_true] at ho
    exact ⟨u, r, hu, SV.holds_mono h1 h2 hV s u ho.1 hs, h1c, cellsSV.mono h1 h2 hV l r ho.2 hl⟩

def allp : Nat → Bool := fun _ => true

mutual
theorem SV.ok_all : ∀ (s : SV), s.ok allp = true
  | .c _ | .agg _ | .ptr _ | .ref _ | .pt _ _ | .raw _ | .hdr _ => rfl
  | .cd _ s => SV.ok_all s
  | .tup l => SV.okL_all l
  | .clo _ l => SV.okL_all l
theorem SV.okL_all : ∀ (l : List SV), SV.ok.SV.okL allp l = true
  | [] => rfl
  | s :: l => by
    show (s.ok allp && SV.ok.SV.okL allp l) = true
    rw [SV.ok_all s, SV.okL_all l]; rfl
end

def Ob.ok (p : Nat → Bool) : Ob → Bool
  | .row _ _ _ _ => true
  | .var _ cs => SV.ok.SV.okL p cs
  | .deep _ _ n => n.all fun e => p e.2

theorem Ob.mono {w w' : World} {G G' : Good} {V V' : Nat → Value} {p : Nat → Bool} (h1 : ∀ k, G k → w'.heap[k]? = w.heap[k]?) (h2 : ∀ k, G k → G' k) (hV : ∀ k, p k = true → V' k = V k) {v : Value} :
    ∀ (o : Ob), o.ok p = true → (∀ b, o.foot w v b → w'.heap[b]? = w.heap[b]?) → o.holds w G V v → o.holds w' G' V' v
  | .row t n c l, _, hb, h => by
    obtain ⟨xs, ho, hc, hl⟩ := h
    exact ⟨xs, ownsRow_same ho hb, hc.mono h1 h2, hl⟩
  | .var t cs, ho, hb, h => by
    obtain ⟨b, cur, hv, hh, hc⟩ := h
    exact ⟨b, cur, hv, by rw [hb b (by show blk v = some b; rw [hv]; rfl)]; exact hh, cellsSV.mono h1 h2 hV cs _ ho hc⟩
  | .deep R a n, ho, hb, h => by
    have e : (n.map fun e => (e.1, V' e.2)) = (n.map fun e => (e.1, V e.2)) := List.map_congr_left fun e he => by rw [hV _ (List.all_eq_true.1 ho e he)]
    show R.holds w' G' v a (n.map fun e => (e.1, V' e.2))
    rw [e]
    exact R.mono h1 h2 hb h

theorem Ob.fkeep {w w' : World} {G : Good} {V : Nat → Value} {v : Value} : ∀ (o : Ob), (∀ b, o.foot w v b → w'.heap[b]? = w.heap[b]?) → o.holds w G V v → ∀ b, o.foot w' v b → o.foot w v b
  | .row _ _ _ _, _, _, _, h => h
  | .var _ _, _, _, _, h => h
  | .deep R _ _, hb, h, b, hf => R.keep hb h b hf

theorem Ob.ok_all (o : Ob) : o.ok allp = true := by cases o <;> first | rfl | exact SV.okL_all _ | exact List.all_eq_true.2 fun _ _ => rfl

/-- Objects of which nothing is turned, in a world of which only owned blocks F have turned. -/
theorem Sep.keep {x : Cx} {w w' : World} {G G' : Good} {V V' : Nat → Value} {O O' : List (Nat × Ob)} {F : Good} {p : Nat → Bool} (h : Sep x w G V O)
    (hup : Upd F w w') (hF : ∀ b, F b → ¬ G b ∧ (x.w0.heap.size ≤ b ∨ x.E b)) (hG : ∀ k, G k → G' k) (hG' : ∀ k, G' k → G k ∨ (w.heap.size ≤ k ∧ k < w'.heap.size))
    (hV : ∀ k, p k = true → V' k = V k) (hO : ∀ e ∈ O', e ∈ O ∧ p e.1 = true ∧ e.2.ok p = true ∧ ∀ b, e.2.foot w (V e.1) b → ¬ F b) : Sep x w' G' V' O' := by
  have hsz := hup.size
  have hw0 := h.up.size
  have hGs : ∀ k, G k → w'.heap[k]? = w.heap[k]? := fun k hk => hup.block k (h.good k hk) (fun hf => (hF k hf).1 hk)
  have hft : ∀ e ∈ O', ∀ b, e.2.foot w' (V e.1) b → e.2.foot w (V e.1) b := fun e he => by
    obtain ⟨h3, h4, h5, h6⟩ := hO e he
    exact Ob.fkeep e.2 (fun b hb => hup.block b (h.own e h3 b hb).1 (h6 b hb)) (h.obs e h3)
  refine ⟨h.up.trans hup ?_, ?_, fun k hk => hG k (h.g0 k hk), ?_, ?_, ?_, ?_, h.gl.mono hGs hG⟩
  · intro i hi hlt
    rcases (hF i hi).2 with h3 | h3
    · omega
    · exact h3
  · intro k hk
    rcases hG' k hk with h3 | h3
    · have := h.good k h3; omega
    · exact h3.2
  · intro k hk
    rcases hG' k hk with h3 | h3
    · exact h.g1 k h3
    · right; omega
  · intro e he
    obtain ⟨h3, h4, h5, h6⟩ := hO e he
    have h7 := h.obs e h3
    rw [hV _ h4]
    refine Ob.mono hGs hG hV e.2 h5 ?_ h7
    intro b hb
    exact hup.block b (h.own e h3 b hb).1 (h6 b hb)
  · intro e he b hb
    obtain ⟨h3, h4, h5, h6⟩ := hO e he
    rw [hV _ h4] at hb
    have h7 := h.own e h3 b (hft e he b hb)
    refine ⟨by omega, ?_, h7.2.2⟩
    intro hg
    rcases hG' b hg with h8 | h8
    · exact h7.2.1 h8
    · omega
  · intro e he e' he' hne b hb
    obtain ⟨h3, h4, _, _⟩ := hO e he
    obtain ⟨h3', h4', _, _⟩ := hO e' he'
    rw [hV _ h4] at hb
    rw [hV _ h4']
    exact fun hb' => h.apart e h3 e' h3' hne b (hft e he b hb) (hft e' he' b hb')

/-- One object more. -/
theorem Sep.cons {x : Cx} {w : World} {G : Good} {V : Nat → Value} {O : List (Nat × Ob)} (h : Sep x w G V O) (id : Nat) (o : Ob) (ho : o.holds w G V (V id))
    (hown : ∀ b, o.foot w (V id) b → b < w.heap.size ∧ ¬ G b ∧ (x.w0.heap.size ≤ b ∨ (x.E b ∧ x.old id = true))) (hap : ∀ e ∈ O, ∀ b, o.foot w (V id) b → ¬ e.2.foot w (V e.1) b) : Sep x w G V ((id, o) :: O) := by
  refine ⟨h.up, h.good, h.g0, h.g1, ?_, ?_, ?_, h.gl⟩
  · intro e he
    rcases List.mem_cons.1 he with rfl | he
    · exact ho
    · exact h.obs e he
  · intro e he b hb
    rcases List.mem_cons.1 he with rfl | he
    · exact hown b hb
    · exact h.own e he b hb
  · intro e he e' he' hne b hb
    rcases List.mem_cons.1 he with h1 | he
    · rcases List.mem_cons.1 he' with h2 | he'
      · subst h1; subst h2; exact absurd rfl hne
      · subst h1; exact hap e' he' b hb
    · rcases List.mem_cons.1 he' with h2 | he'
      · subst h2
        intro h3
        exact hap e he b h3 hb
      · exact h.apart e he e' he' hne b hb

theorem Sep.sub {x : Cx} {w : World} {G : Good} {V : Nat → Value} {O O' : List (Nat × Ob)} (h : Sep x w G V O) (hs : ∀ e ∈ O', e ∈ O) : Sep x w G V O' :=
  ⟨h.up, h.good, h.g0, h.g1, fun e he => h.obs e (hs e he), fun e he => h.own e (hs e he), fun e he e' he' => h.apart e (hs e he) e' (hs e' he'), h.gl⟩

/-! ### operations -/

/-- What one operation yields. -/
def Yields (P : Program) (o : Oper) (a : Act) (w : World) (R : Value → World → Prop) : Prop :=
  match (execOp a.eval o).run P w with
  | .ok (.value v) w' => R v w'
  | .ok .skip w' => R undef w'
  | .ok (.enter f args) w' => Calls P f args w' (fun e w'' => ∃ v, e = .returned v ∧ R v w'')
  | _ => False

theorem Yields.wp {P : Program} {o : Oper} {a : Act} {w : World} {R : Value → World → Prop} {K : Act → World → Prop} {Q : Exit → Act → World → Prop} (h : Yields P o a w R) (hk : ∀ v w', R v w' → K (a.put o.dst v) w') : o.wp P a w K Q := by
  unfold Yields at h
  unfold Oper.wp
  generalize (execOp a.eval o).run P w = r at *
  cases r with
  | ok n w' =>
    cases n <;> simp only [Oper.upon] <;> simp only at h
    case value v => exact hk _ _ h
    case skip => exact hk _ _ h
    case enter f args =>
      refine h.mono fun e w'' ⟨v, he, hr⟩ => ?_
      subst he
      exact hk _ _ hr
  | halt x w' => simp only at h

theorem Yields.value {P : Program} {o : Oper} {a : Act} {w w' : World} {v : Value} {R : Value → World → Prop} (hr : (execOp a.eval o).run P w = .ok (.value v) w') (h : R v w') : Yields P o a w R := by unfold Yields; rw [hr]; exact h
theorem Yields.skip {P : Program} {o : Oper} {a : Act} {w w' : World} {R : Value → World → Prop} (hr : (execOp a.eval o).run P w = .ok .skip w') (h : R undef w') : Yields P o a w R := by unfold Yields; rw [hr]; exact h
theorem Yields.enter {P : Program} {o : Oper} {a : Act} {w w' : World} {f : FuncId} {args : Array Value} {R : Value → World → Prop} (hr : (execOp a.eval o).run P w = .ok (.enter f args) w') (h : Calls P f args w' (fun e w'' => ∃ v, e = .returned v ∧ R v w'')) : Yields P o a w R := by unfold Yields; rw [hr]; exact h

/-- WHAT AN OPERATION DOES AT THE DATA LEVEL: from the state (S, O) its value is sv, the objects are O'; names of which p holds mean what they meant. -/
def OpX (P : Program) (x : Cx) (S : List (Nat × SV)) (O : List (Nat × Ob)) (o : Oper) (sv : SV) (O' : List (Nat × Ob)) (p : Nat → Bool) : Prop :=
  ∀ a w G V, Sep x w G V O → a.defers = [] → Slots x.N a w G V S → Yields P o a w fun v w' => ∃ G' V', Sep x w' G' V' O' ∧ (∀ k, G k → G' k) ∧ (∀ k, G k → w'.heap[k]? = w.heap[k]?) ∧ (∀ k, p k = true → V' k = V k) ∧ sv.holds w' G' V' v


theorem OpX.pure {P : Program} {x : Cx} {S : List (Nat × SV)} {O : List (Nat × Ob)} {o : Oper} {sv : SV}
    (h : ∀ a w G V, Sep x w G V O → Slots x.N a w G V S → ∃ v, (execOp a.eval o).run P w = .ok (.value v) w ∧ sv.holds w G V v) : OpX P x S O o sv O allp := by
  intro a w G V hs _ hS
  obtain ⟨v, hr, hv⟩ := h a w G V hs hS
  exact Yields.value hr ⟨G, V, hs, fun _ h => h, fun _ _ => rfl, fun _ _ => rfl, hv⟩

/-- A block of data that nobody writes any more. -/
theorem Sep.allocGood {x : Cx} {w : World} {G : Good} {V : Nat → Value} {O : List (Nat × Ob)} (h : Sep x w G V O) (o : Obj) : Sep x (w.alloc o) (fun k => G k ∨ k = w.heap.size) V O := by
  refine h.keep (F := fun _ => False) (p := allp) ⟨rfl, rfl, rfl, by simp, fun k hk _ => Below.heap_alloc w o k hk⟩ (fun _ f => f.elim) (fun k hk => .inl hk) ?_ (fun _ _ => rfl) ?_
  · intro k hk
    rcases hk with hk | hk
    · exact .inl hk
    · right; subst hk; simp
  · intro e he
    exact ⟨he, rfl, Ob.ok_all _, fun _ _ f => f⟩

/-! ### the slots -/

def fresh (d : Nat) (S : List (Nat × SV)) : Bool := S.all fun e => !(e.1 == d)
def chk (N d : Nat) (S : List (Nat × SV)) : Bool := decide (d < N) && fresh d S
def okS (p : Nat → Bool) (S : List (Nat × SV)) : Bool := S.all fun e => e.2.ok p

theorem fresh_ne {d : Nat} {S : List (Nat × SV)} (h : fresh d S = true) : ∀ e ∈ S, e.1 ≠ d := by
  intro e he
  have := List.all_eq_true.1 h e he
  simpa using this

theorem put_get_ne {a : Act} {d s : Nat} {v : Value} (h : s ≠ d) : (a.put (some d) v).tmps[s]? = a.tmps[s]? := by
  show (a.tmps.setIfInBounds d v)[s]? = _
  rw [Array.getElem?_setIfInBounds]
  simp [Ne.symm h]

theorem put_get {a : Act} {d : Nat} {v : Value} (h : d < a.tmps.size) : (a.put (some d) v).tmps[d]? = some v := by
  show (a.tmps.setIfInBounds d v)[d]? = _
  rw [Array.getElem?_setIfInBounds]
  simp [h]

theorem Slots.put {N : Nat} {a : Act} {w w' : World} {G G' : Good} {V V' : Nat → Value} {S : List (Nat × SV)} {d : Nat} {sv : SV} {v : Value} {p : Nat → Bool} (hS : Slots N a w G V S) (hN : a.tmps.size = N) (hk : chk N d S = true) (hp : okS p S = true)
    (h1 : ∀ k, G k → w'.heap[k]? = w.heap[k]?) (h2 : ∀ k, G k → G' k) (hV : ∀ k, p k = true → V' k = V k) (hv : sv.holds w' G' V' v) : Slots N (a.put (some d) v) w' G' V' ((d, sv) :: S) := by
  simp only [chk, Bool.and_eq_true, decide_eq_true_eq] at hk
  intro e he
  rcases List.mem_cons.1 he with rfl | he
  · exact ⟨hk.1, v, put_get (by rw [hN]; exact hk.1), hv⟩
  · obtain ⟨h3, u, h4, h5⟩ := hS e he
    exact ⟨h3, u, by rw [put_get_ne (fresh_ne hk.2 e he)]; exact h4, SV.holds_mono h1 h2 hV _ _ (List.all_eq_true.1 hp e he) h5⟩

theorem Slots.step {N : Nat} {a : Act} {w w' : World} {G G' : Good} {V V' : Nat → Value} {S : List (Nat × SV)} {p : Nat → Bool} (hS : Slots N a w G V S) (hp : okS p S = true)
    (h1 : ∀ k, G k → w'.heap[k]? = w.heap[k]?) (h2 : ∀ k, G k → G' k) (hV : ∀ k, p k = true → V' k = V k) : Slots N a w' G' V' S := by
  intro e he
  obtain ⟨h3, u, h4, h5⟩ := hS e he
  exact ⟨h3, u, h4, SV.holds_mono h1 h2 hV _ _ (List.all_eq_true.1 hp e he) h5⟩

theorem Slots.sub {N : Nat} {a : Act} {w : World} {G : Good} {V : Nat → Value} {S S' : List (Nat × SV)} (hS : Slots N a w G V S) (hs : ∀ e ∈ S', e ∈ S) : Slots N a w G V S' := fun e he => hS e (hs e he)

theorem ids_keep {ids : List Nat} {V V' V0 : Nat → Value} {p : Nat → Bool} (hI : ∀ k ∈ ids, V k = V0 k) (hp : ids.all p = true) (hV : ∀ k, p k = true → V' k = V k) : ∀ k ∈ ids, V' k = V0 k :=
  fun k hk => (hV k (List.all_eq_true.1 hp k hk)).trans (hI k hk)

/-! ### what follows -/

/-- From every state (S, O) the rest of a region goes through. -/
def Nx (P : Program) (ops : Array Oper) (Q : Exit → Act → World → Prop) (rest : List Oper) (x : Cx) (S : List (Nat × SV)) (O : List (Nat × Ob)) : Prop := ∀ a w, St x a w S O → wpList P ops Q rest a w
/-- From every state (S, O) the code goes through. -/
def Cw (P : Program) (c : Code) (Q : Exit → Act → World → Prop) (x : Cx) (S : List (Nat × SV)) (O : List (Nat × Ob)) : Prop := ∀ a w, St x a w S O → c.wp P Q a w
/-- From every state (S, O) the exit e is right. -/
def Ex (Q : Exit → Act → World → Prop) (e : Exit) (x : Cx) (S : List (Nat × SV)) (O : List (Nat × Ob)) : Prop := ∀ a w, St x a w S O → Q e a w

section
variable {P : Program} {ops : Array Oper} {Q : Exit → Act → World → Prop} {rest : List Oper} {x : Cx} {S S' : List (Nat × SV)} {O O' : List (Nat × Ob)}

theorem nx_nil (h : Ex Q .normal x S O) : Nx P ops Q [] x S O := fun a w hs => wpList_nil (h a w hs)

theorem nx_op {d : Nat} {op : Op} {ty : TypeId} {pos : String} {aft : Array Edge} {sv : SV} {p : Nat → Bool} (ho : OpX P x S O ⟨some d, op, ty, pos, aft, none⟩ sv O' p) (hk : (chk x.N d S && okS p S && x.ids.all p) = true)
    (k : Nx P ops Q rest x ((d, sv) :: S) O') : Nx P ops Q (⟨some d, op, ty, pos, aft, none⟩ :: rest) x S O := by
  intro a w ⟨G, V, hs, hd, hN, hS, hI⟩
  simp only [Bool.and_eq_true] at hk
  refine wpList_plain rfl fun K hK => ?_
  refine (ho a w G V hs hd hS).wp fun v w' ⟨G', V', hs', hg, hw, hV, hv⟩ => hK _ _ ?_
  exact k _ _ ⟨G', V', hs', by show (Act.put a (some d) v).defers = []; exact hd, by show (a.tmps.setIfInBounds d v).size = _; simpa using hN, hS.put hN hk.1.1 hk.1.2 hw hg hV hv, ids_keep hI hk.2 hV⟩

/-- An operation that no slot takes (a store). -/
theorem nx_op0 {op : Op} {ty : TypeId} {pos : String} {aft : Array Edge} {sv : SV} {p : Nat → Bool} (ho : OpX P x S O ⟨none, op, ty, pos, aft, none⟩ sv O' p) (hk : (okS p S && x.ids.all p) = true)
    (k : Nx P ops Q rest x S O') : Nx P ops Q (⟨none, op, ty, pos, aft, none⟩ :: rest) x S O := by
  intro a w ⟨G, V, hs, hd, hN, hS, hI⟩
  simp only [Bool.and_eq_true] at hk
  refine wpList_plain rfl fun K hK => ?_
  refine (ho a w G V hs hd hS).wp fun v w' ⟨G', V', hs', hg, hw, hV, hv⟩ => hK _ _ ?_
  exact k _ _ ⟨G', V', hs', hd, hN, hS.step hk.1 hw hg hV, ids_keep hI hk.2 hV⟩

theorem okS_all (S : List (Nat × SV)) : okS allp S = true := List.all_eq_true.2 fun e _ => SV.ok_all e.2

end
end Go.Dl
