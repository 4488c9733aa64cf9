/- The data level, fourth text: operations that make memory or write into memory of the call's own. -/
import Derived.Test.YtbalmknhjokgaaaDlOps
import Derived.Great.BuildSlice
set_option linter.unusedVariables false
namespace Go.Dl
open Go Go.RowKit

def setV (V : Nat → Value) (id : Nat) (v : Value) : Nat → Value := fun k => if k = id then v else V k
theorem setV_same {V : Nat → Value} {id : Nat} {v : Value} : setV V id v id = v := by simp [setV]
theorem setV_ne {V : Nat → Value} {id k : Nat} {v : Value} (h : k ≠ id) : setV V id v k = V k := by simp [setV, h]
/-- every name but id -/
def butp (id : Nat) : Nat → Bool := fun k => !(k == id)
theorem setV_but {V : Nat → Value} {id : Nat} {v : Value} : ∀ k, butp id k = true → setV V id v k = V k := fun k hk => setV_ne (by simpa [butp] using hk)
def del (k : Nat) (O : List (Nat × Ob)) : List (Nat × Ob) := O.filter fun e => !(e.1 == k)
theorem mem_del {k : Nat} {O : List (Nat × Ob)} {e : Nat × Ob} (h : e ∈ del k O) : e ∈ O ∧ e.1 ≠ k := by
  obtain ⟨h1, h2⟩ := List.mem_filter.1 h
  exact ⟨h1, by simpa using h2⟩
/-- no object of the list is id, none names it -/
def freeO (id : Nat) (O : List (Nat × Ob)) : Bool := O.all fun e => !(e.1 == id) && e.2.ok (butp id)
theorem freeO_spec {id : Nat} {O : List (Nat × Ob)} (h : freeO id O = true) : ∀ e ∈ O, e.1 ≠ id ∧ e.2.ok (butp id) = true := by
  intro e he
  have := List.all_eq_true.1 h e he
  simpa using this

theorem Sep.turn {x : Cx} {w w' : World} {G : Good} {V : Nat → Value} {O O1 : List (Nat × Ob)} {F : Good} (h : Sep x w G V O) (hup : Upd F w w') {id : Nat} (hF : ∀ b, F b → ¬ G b ∧ (x.w0.heap.size ≤ b ∨ (x.E b ∧ x.old id = true)))
    {ob : Ob} {v : Value} (hO1 : ∀ e ∈ O1, e ∈ O ∧ ∀ b, e.2.foot w (V e.1) b → ¬ F b) (hfr : freeO id O1 = true) (hv : ob.holds w' G (setV V id v) v) (hb : ∀ b, ob.foot w' v b → b < w'.heap.size ∧ (F b ∨ w.heap.size ≤ b)) :
    Sep x w' G (setV V id v) ((id, ob) :: O1) := by
  have hfr' := freeO_spec hfr
  have hsz := hup.size
  have hw0 := h.up.size
  have hk : Sep x w' G (setV V id v) O1 := h.keep (p := butp id) hup (fun b hb => ⟨(hF b hb).1, (hF b hb).2.imp (fun h => h) (fun h => h.1)⟩) (fun _ h => h) (fun _ h => .inl h) setV_but
    (fun e he => ⟨(hO1 e he).1, by simp [butp, (hfr' e he).1], (hfr' e he).2, (hO1 e he).2⟩)
  refine hk.cons id ob (by rw [setV_same]; exact hv) ?_ ?_
  · intro b hb'
    rw [setV_same] at hb'
    obtain ⟨h1, h2⟩ := hb b hb'
    refine ⟨h1, ?_, ?_⟩
    · intro hg
      rcases h2 with h2 | h2
      · exact (hF b h2).1 hg
      · have := h.good b hg; omega
    · rcases h2 with h2 | h2
      · exact (hF b h2).2
      · left; omega
  · intro e he b hb1 hb2
    rw [setV_same] at hb1
    rw [setV_ne (hfr' e he).1] at hb2
    obtain ⟨h1, h2⟩ := hO1 e he
    have hb2 := Ob.fkeep e.2 (fun b hb => hup.block b (h.own e h1 b hb).1 (h2 b hb)) (h.obs e h1) b hb2
    rcases (hb b hb1).2 with h3 | h3
    · exact h2 b hb2 h3
    · have := (h.own e h1 b hb2).1; omega

/-- The object k turns in place: its value stays. -/
theorem Sep.turnIn {x : Cx} {w w' : World} {G : Good} {V : Nat → Value} {O : List (Nat × Ob)} {k : Nat} {old ob : Ob} (h : Sep x w G V O) (hk : (k, old) ∈ O) (hup : Upd (fun b => old.foot w (V k) b) w w') (hv : ob.holds w' G V (V k)) (hft : ∀ b, ob.foot w' (V k) b → old.foot w (V k) b := by exact fun _ h => h) :
    Sep x w' G V ((k, ob) :: del k O) := by
  have hsz := hup.size
  have hd : Sep x w' G V (del k O) := h.keep (p := allp) hup (fun b hb => ⟨(h.own _ hk b hb).2.1, (h.own _ hk b hb).2.2.imp (fun h => h) (fun h => h.1)⟩) (fun _ h => h) (fun _ h => .inl h) (fun _ _ => rfl)
    (fun e he => ⟨(mem_del he).1, rfl, Ob.ok_all _, fun b hb hb' => h.apart e (mem_del he).1 (k, old) hk (mem_del he).2 b hb hb'⟩)
  refine hd.cons k ob hv (fun b hb => ?_) (fun e he b hb hb' => h.apart (k, old) hk e (mem_del he).1 (Ne.symm (mem_del he).2) b (hft b hb) (Ob.fkeep e.2 (fun b hb => hup.block b (h.own e (mem_del he).1 b hb).1 (fun hb' => h.apart e (mem_del he).1 (k, old) hk (mem_del he).2 b hb hb')) (h.obs e (mem_del he).1) b hb'))
  have := h.own _ hk b (hft b hb)
  exact ⟨by omega, this.2⟩

section
variable {P : Program} {x : Cx} {S : List (Nat × SV)} {O : List (Nat × Ob)} {d : Option Nat} {ty : TypeId} {pos : String} {aft : Array Edge} {g : Option (Nat × Bool)}

/-- A value whose cells read as its. -/
inductive CanI (S : List (Nat × SV)) (e : Operand) : List It → Prop
  | c {i : It} (h : Can S e (.c i)) : CanI S e [i]
  | agg {l : List It} (h : Can S e (.agg l)) : CanI S e l

theorem one_cells {v : Value} (h : v.oneCell' = true) : v.cells = #[v] := by cases v <;> first | rfl | simp [Value.oneCell'] at h

theorem CanI.eval {e : Operand} {l : List It} (h : CanI S e l) {N : Nat} {a : Act} {w : World} {G : Good} {V : Nat → Value} (hS : Slots N a w G V S) : cellsRd w G (a.eval e).cells.toList l := by
  cases h with
  | c h =>
    have h1 := h.eval hS
    rw [one_cells (It.r _ |>.one h1)]
    exact ⟨h1, trivial⟩
  | agg h =>
    obtain ⟨cs, hv, hc⟩ := h.eval hS
    rw [hv]; simpa [Value.cells] using hc

def setSeg {β : Type 1} (L : List β) (off : Nat) (l : List β) : List β := L.take off ++ (l ++ L.drop (off + l.length))

/-- The cells that a struct's (an array's, a slice's) parts are laid over. -/
def bldS (P : Program) (t : TypeId) : Option (List Value × List (Nat × Nat)) :=
  match P.info? t, P.underlying t with
  | some it, some (.struct fields) =>
    match it.zero, fields.toList.mapM (fun f => (P.info? f.type).map fun i => (f.offset, i.size)) with
    | some z, some places => some (z.cells.toList, places)
    | _, _ => none
  | _, _ => none

theorem foldl_seg (v : List Value) (off : Nat) : ∀ (j : Nat) (cs : Array Value), off + j + v.length ≤ cs.size →
    ((v.zipIdx j).foldl (fun (cs : Array Value) (x : Value × Nat) => cs.setIfInBounds (off + x.2) x.1) cs).toList = cs.toList.take (off + j) ++ (v ++ cs.toList.drop (off + j + v.length)) := by
  induction v with
  | nil => intro j cs h; simp
  | cons u v ih =>
    intro j cs h
    simp only [List.length_cons] at h
    rw [List.zipIdx_cons, List.foldl_cons, ih (j + 1) _ (by simp; omega)]
    have e := list_seg_step cs.toList (off + j) u v (by simp; omega)
    simpa [Array.toList_setIfInBounds, Nat.add_assoc, Nat.add_comm 1] using e

theorem cellsRd.take {w : World} {G : Good} : ∀ {us : List Value} {is : List It} (n : Nat), cellsRd w G us is → cellsRd w G (us.take n) (is.take n)
  | [], [], _, _ => by simp [cellsRd]
  | _ :: _, _ :: _, 0, _ => by simp [cellsRd]
  | _ :: _, _ :: _, n + 1, h => ⟨h.1, cellsRd.take n h.2⟩
  | [], _ :: _, _, h => h.elim
  | _ :: _, [], _, h => h.elim
theorem cellsRd.drop {w : World} {G : Good} : ∀ {us : List Value} {is : List It} (n : Nat), cellsRd w G us is → cellsRd w G (us.drop n) (is.drop n)
  | [], [], _, _ => by simp [cellsRd]
  | _ :: _, _ :: _, 0, h => h
  | _ :: _, _ :: _, n + 1, h => cellsRd.drop n h.2
  | [], _ :: _, _, h => h.elim
  | _ :: _, [], _, h => h.elim

theorem fill_rd {w : World} {G : Good} (place : Nat → Option (Nat × Nat)) : ∀ (parts : List (Nat × Value)) (its : List (Nat × List It)) (cells : Array Value) (L : List It), cellsRd w G cells.toList L →
    parts.length = its.length → (∀ j (h : j < parts.length) (h' : j < its.length), cellsRd w G (parts[j]).2.cells.toList (its[j]).2 ∧ place (parts[j]).1 = some ((its[j]).1, (its[j]).2.length) ∧ (its[j]).1 + (its[j]).2.length ≤ L.length) →
    ∃ cs, Instr.fill place cells parts = some cs ∧ cellsRd w G cs.toList (its.foldl (fun L p => setSeg L p.1 p.2) L)
  | [], [], cells, L, h, _, _ => ⟨cells, rfl, h⟩
  | (i, v) :: parts, p :: its, cells, L, h, hl, hp => by
    obtain ⟨h1, h2, h3⟩ := hp 0 (by simp) (by simp)
    simp only [List.getElem_cons_zero] at h1 h2 h3
    have hvl : v.cells.size = p.2.length := by have := h1.length; simpa using this
    have hcl : cells.size = L.length := by have := h.length; simpa using this
    have hseg := foldl_seg v.cells.toList p.1 0 cells (by simp only [Array.length_toList, Nat.add_zero]; omega)
    have hfold : (v.cells.zipIdx.foldl (fun cs (x : Value × Nat) => cs.setIfInBounds (p.1 + x.2) x.1) cells) = (v.cells.toList.zipIdx.foldl (fun (cs : Array Value) (x : Value × Nat) => cs.setIfInBounds (p.1 + x.2) x.1) cells) := by
      rw [← Array.foldl_toList]; simp
    have hrd : cellsRd w G (v.cells.zipIdx.foldl (fun cs (x : Value × Nat) => cs.setIfInBounds (p.1 + x.2) x.1) cells).toList (setSeg L p.1 p.2) := by
      rw [hfold, hseg]
      simp only [Nat.add_zero, Array.length_toList, setSeg]
      rw [hvl]
      exact (h.take p.1).append (h1.append (h.drop _))
    obtain ⟨cs, h4, h5⟩ := fill_rd place parts its _ (setSeg L p.1 p.2) hrd (by simpa using hl) (fun j hj hj' => by
      have h6 := hp (j + 1) (by simpa using hj) (by simpa using hj')
      simp only [List.getElem_cons_succ] at h6
      refine ⟨h6.1, h6.2.1, ?_⟩
      have : (setSeg L p.1 p.2).length = L.length := by simp [setSeg]; omega
      omega)
    refine ⟨cs, ?_, h5⟩
    simp only [Instr.fill, h2]
    rw [if_neg (by simp [hvl]; omega)]
    exact h4
  | [], _ :: _, _, _, _, h, _ => by simp at h
  | _ :: _, [], _, _, _, h, _ => by simp at h

/-- What is laid at a place: the operand, and what its cells read as. -/
inductive Parts (S : List (Nat × SV)) : List (Nat × Operand) → List (Nat × List It) → (Nat → Option (Nat × Nat)) → Nat → Prop
  | nil {pl : Nat → Option (Nat × Nat)} {m : Nat} : Parts S [] [] pl m
  | cons {i : Nat} {e : Operand} {off : Nat} {l : List It} {ps : List (Nat × Operand)} {its : List (Nat × List It)} {pl : Nat → Option (Nat × Nat)} {m : Nat} (h : CanI S e l) (hp : pl i = some (off, l.length)) (hm : off + l.length ≤ m) (r : Parts S ps its pl m) :
      Parts S ((i, e) :: ps) ((off, l) :: its) pl m

theorem Parts.spec {ps : List (Nat × Operand)} {its : List (Nat × List It)} {pl : Nat → Option (Nat × Nat)} {m : Nat} (h : Parts S ps its pl m) {N : Nat} {a : Act} {w : World} {G : Good} {V : Nat → Value} (hS : Slots N a w G V S) :
    (ps.map fun p => (p.1, a.eval p.2)).length = its.length ∧ ∀ j (h : j < (ps.map fun p => (p.1, a.eval p.2)).length) (h' : j < its.length), cellsRd w G ((ps.map fun p => (p.1, a.eval p.2))[j]).2.cells.toList (its[j]).2 ∧ pl ((ps.map fun p => (p.1, a.eval p.2))[j]).1 = some ((its[j]).1, (its[j]).2.length) ∧ (its[j]).1 + (its[j]).2.length ≤ m := by
  induction h with
  | nil => exact ⟨rfl, by simp⟩
  | cons h hp hm r ih =>
    refine ⟨by simpa using ih.1, ?_⟩
    intro j hj hj'
    cases j with
    | zero => exact ⟨h.eval hS, hp, hm⟩
    | succ j => exact ih.2 j (by simpa using hj) (by simpa using hj')

/-- a struct literal -/
theorem op_build {t : TypeId} {parts : Array (Nat × Operand)} {zs : List Value} {places : List (Nat × Nat)} (L0 : List It) {its : List (Nat × List It)} {l : List It} (hb : bldS P t = some (zs, places)) (hz : ∀ w G, cellsRd w G zs L0)
    (hp : Parts S parts.toList its (places.toArray[·]?) L0.length) (hl : its.foldl (fun L p => setSeg L p.1 p.2) L0 = l) : OpX P x S O ⟨d, .build t parts, ty, pos, aft, g⟩ (.agg l) O allp := .pure fun a w G V _ hS => by
  obtain ⟨h1, h2⟩ := hp.spec hS
  obtain ⟨cs, h3, h4⟩ := fill_rd (w := w) (G := G) (places.toArray[·]?) (parts.toList.map fun p => (p.1, a.eval p.2)) its zs.toArray L0 (by simpa using hz w G) h1 h2
  refine ⟨.agg cs, ?_, cs.toList, by simp, by rw [← hl]; exact h4⟩
  have hbl : P.built t (parts.map fun p => (p.1, a.eval p.2)).toList = some cs := by
    unfold bldS at hb
    unfold Program.built
    cases hi : P.info? t with
    | none => simp [hi] at hb
    | some it =>
      cases hu : P.underlying t with
      | none => simp [hi, hu] at hb
      | some dd =>
        cases dd <;> simp only [hi, hu] at hb ⊢ <;> try (cases hb; done)
        rename_i fields
        cases hzz : it.zero with
        | none => simp [hzz] at hb
        | some z =>
          cases hm : fields.toList.mapM (fun f => (P.info? f.type).map fun i => (f.offset, i.size)) with
          | none => simp [hzz, hm] at hb
          | some pls =>
            simp only [hzz, hm, Option.some.injEq, Prod.mk.injEq] at hb ⊢
            obtain ⟨rfl, rfl⟩ := hb
            simpa [Array.toList_map] using h3
  simp only [execOp, Sem.run_bind]
  rw [show (parts.map fun (i, x) => (i, a.eval x)) = (parts.map fun p => (p.1, a.eval p.2)) from rfl, run_build w t _ cs hbl]
  rfl

end
end Go.Dl
