/- The data level, twelfth text: structs of scalars compared. -/
import Derived.Test.YtbalmknhjokgaaaDlGen
set_option linter.unusedVariables false
namespace Go.Dl
open Go Go.RowKit

section
variable {P : Program}
/-- the fields of a struct that may be compared -/
def structF (P : Program) (t : TypeId) : Option (List (String × TypeId × Nat)) :=
  match P.underlying t with
  | some (.struct fs) => if P.stoodInHeld t = false ∧ P.eqGuardType P.depth t = false then some (fs.toList.map fun f => (f.name, f.type, f.offset)) else none
  | _ => none

inductive EqIt (P : Program) (t : TypeId) : It → It → Bool → Prop
  | int {k k' : IntKind} {p q : Int} (hu : P.underlying t = some (.int k')) : EqIt P t (iK k p) (iK k q) (p == q)
  | bool {p q : Bool} (hu : P.underlying t = some .bool) : EqIt P t (iB p) (iB q) (p == q)
  | str {p q : ByteArray} (hu : P.underlying t = some .string) : EqIt P t (iStr p) (iStr q) (p == q)
inductive EqL (P : Program) (l m : List It) : List (String × TypeId × Nat) → Bool → Prop
  | nil : EqL P l m [] true
  | cons {n : String} {t : TypeId} {o : Nat} {fs : List (String × TypeId × Nat)} {i j : It} {b c : Bool} (hn : (n != "_") = true) (ha : aggB P t = some false) (hi : l[o]? = some i) (hj : m[o]? = some j) (he : EqIt P t i j b) (r : EqL P l m fs c) : EqL P l m ((n, t, o) :: fs) (b && c)

theorem run_eqIt {t : TypeId} {i j : It} {b : Bool} (h : EqIt P t i j b) {w : World} {G : Good} {u v : Value} (hu : i.rd w G u) (hv : j.rd w G v) (d : Nat) : (Op.equalIn (d + 1) t u v).run P w = .ok b w := by
  cases h with
  | int h => have hu' : u = .int _ _ := hu; have hv' : v = .int _ _ := hv; subst hu' hv'; simp only [Op.equalIn, Sem.run_bind, run_underlying h, Result.andThen_ok]; simp
  | bool h => have hu' : u = .bool _ := hu; have hv' : v = .bool _ := hv; subst hu' hv'; simp only [Op.equalIn, Sem.run_bind, run_underlying h, Result.andThen_ok]; simp
  | str h => have hu' : u = .string _ := hu; have hv' : v = .string _ := hv; subst hu' hv'; simp only [Op.equalIn, Sem.run_bind, run_underlying h, Result.andThen_ok]; simp

theorem run_part1 {t : TypeId} (ha : aggB P t = some false) {cs : Array Value} {o : Nat} {v : Value} (h : cs[o]? = some v) (w : World) : (part t cs o).run P w = .ok v w := by
  unfold part
  simp only [Sem.run_bind, run_aggB ha, Result.andThen_ok, h]
  rfl

theorem run_forIn_all {w : World} {l m : List It} (f : Field → Option Bool × Unit → Sem (ForInStep (Option Bool × Unit)))
    (hstep : ∀ (x : Field) (b : Bool) (i j : It), (x.name != "_") = true → aggB P x.type = some false → l[x.offset]? = some i → m[x.offset]? = some j → EqIt P x.type i j b →
      ∀ r, (f x r).run P w = .ok (if b then .yield (none, ()) else .done (some false, ())) w) :
    ∀ (fs : List Field) (b : Bool), EqL P l m (fs.map fun f => (f.name, f.type, f.offset)) b → (forIn fs ((none, ()) : Option Bool × Unit) f).run P w = .ok (if b then (none, ()) else (some false, ())) w
  | [], b, h => by
    cases h
    rfl
  | x :: fs, b, h => by
    simp only [List.map_cons] at h
    generalize hfs : (fs.map fun f => (f.name, f.type, f.offset)) = L at h
    cases h with
    | cons hn ha hi hj he r =>
      rename_i i j b c
      subst hfs
      have ih := run_forIn_all f hstep fs c r
      rw [List.forIn_cons, Sem.run_bind, hstep x b i j hn ha hi hj he]
      cases b
      · rfl
      · exact ih

theorem run_equalA {t : TypeId} {fs : List (String × TypeId × Nat)} (hf : structF P t = some fs) {l m : List It} {b : Bool} (he : EqL P l m fs b) {w : World} {G : Good} {us vs : List Value} (hl : cellsRd w G us l) (hm : cellsRd w G vs m) :
    (Op.equal t (.agg us.toArray) (.agg vs.toArray)).run P w = .ok b w ∧ P.eqGuardType P.depth t = false := by
  unfold structF at hf
  split at hf
  · rename_i fields hu
    split at hf
    · rename_i hc
      cases hf
      refine ⟨?_, hc.2⟩
      unfold Op.equal Op.maxDepth
      rw [show (10000 : Nat) = 9998 + 1 + 1 from rfl]
      rw [Op.equalIn]
      simp only [Sem.run_bind, run_underlying hu, Result.andThen_ok, run_program, hc.1]
      simp only [Bool.false_eq_true, if_false, Sem.run_bind, ← Array.forIn_toList]
      rw [run_forIn_all (l := l) (m := m) _ ?_ fields.toList b he]
      · cases b <;> rfl
      · intro x b i j hn ha hi hj he r
        obtain ⟨hlo, hi'⟩ := List.getElem?_eq_some_iff.1 hi
        obtain ⟨hmo, hj'⟩ := List.getElem?_eq_some_iff.1 hj
        have e1 := cellsRd.length hl
        have e2 := cellsRd.length hm
        have hu := cellsRd.get hl x.offset hlo (by omega)
        have hv := cellsRd.get hm x.offset hmo (by omega)
        rw [hi'] at hu; rw [hj'] at hv
        have hp1 := run_part1 (P := P) ha (cs := us.toArray) (o := x.offset) (v := us[x.offset]'(by omega)) (by simp) w
        have hp2 := run_part1 (P := P) ha (cs := vs.toArray) (o := x.offset) (v := vs[x.offset]'(by omega)) (by simp) w
        have he' := run_eqIt he hu hv 9998
        have hn' : x.name ≠ "_" := by simpa using hn
        simp only [hn', ne_eq, not_false_eq_true, if_true, Sem.run_bind, hp1, hp2, he', Result.andThen_ok]
        cases b <;> rfl
    · cases hf
  · cases hf

variable {ops : Array Oper} {Q : Exit → Act → World → Prop} {rest : List Oper} {x : Cx} {S S' : List (Nat × SV)} {O O' : List (Nat × Ob)} {d : Option Nat} {ty : TypeId} {pos : String} {aft : Array Edge} {g : Option (Nat × Bool)}
theorem run_guardA {t : TypeId} {op : BinOp} {ex ey : Operand} {us vs : Array Value} {w : World} (h : P.eqGuardType P.depth t = false) : (eqGuard op t ex ey (.agg us) (.agg vs)).run P w = .ok () w := by
  unfold eqGuard; cases op <;> simp [Sem.run_bind, run_program, Result.andThen_ok, h]
theorem op_eqlA {t ty' : TypeId} {ex ey : Operand} {l m : List It} {b : Bool} {fs : List (String × TypeId × Nat)} (hx : Can S ex (.agg l)) (hy : Can S ey (.agg m)) (hf : structF P t = some fs) (he : EqL P l m fs b) :
    OpX P x S O ⟨d, .binOp .eql t ex ey ty', ty, pos, aft, g⟩ (B b) O allp := .pure fun a w G V _ hS => by
  obtain ⟨us, h1, h1'⟩ := hx.eval hS
  obtain ⟨vs, h2, h2'⟩ := hy.eval hS
  obtain ⟨h3, h4⟩ := run_equalA hf he h1' h2' (w := w) (G := G)
  have h5 : (binOp .eql t (.agg us.toArray) (.agg vs.toArray)).run P w = .ok (.bool b) w := by
    have h6 : binOp .eql t (.agg us.toArray) (.agg vs.toArray) = (do pure (.bool (← Op.equal t (.agg us.toArray) (.agg vs.toArray)))) := rfl
    rw [h6, Sem.run_bind, h3]; rfl
  exact ⟨.bool b, by simp only [execOp, h1, h2, Sem.run_bind, run_guardA h4, Result.andThen_ok, h5]; rfl, rfl⟩
theorem op_neqA {t ty' : TypeId} {ex ey : Operand} {l m : List It} {b : Bool} {fs : List (String × TypeId × Nat)} (hx : Can S ex (.agg l)) (hy : Can S ey (.agg m)) (hf : structF P t = some fs) (he : EqL P l m fs b) :
    OpX P x S O ⟨d, .binOp .neq t ex ey ty', ty, pos, aft, g⟩ (B (!b)) O allp := .pure fun a w G V _ hS => by
  obtain ⟨us, h1, h1'⟩ := hx.eval hS
  obtain ⟨vs, h2, h2'⟩ := hy.eval hS
  obtain ⟨h3, h4⟩ := run_equalA hf he h1' h2' (w := w) (G := G)
  have h5 : (binOp .neq t (.agg us.toArray) (.agg vs.toArray)).run P w = .ok (.bool (!b)) w := by
    have h6 : binOp .neq t (.agg us.toArray) (.agg vs.toArray) = (do pure (.bool (!(← Op.equal t (.agg us.toArray) (.agg vs.toArray))))) := rfl
    rw [h6, Sem.run_bind, h3]; rfl
  exact ⟨.bool (!b), by simp only [execOp, h1, h2, Sem.run_bind, run_guardA h4, Result.andThen_ok, h5]; rfl, rfl⟩
end
end Go.Dl
