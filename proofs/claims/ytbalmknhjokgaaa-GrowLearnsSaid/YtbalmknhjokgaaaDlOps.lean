/- The data level, third text: operations that only read, and operations that lay data in new memory. -/
import Derived.Test.YtbalmknhjokgaaaDlCore
set_option linter.unusedVariables false
namespace Go.Dl
open Go Go.RowKit

abbrev I (x : Int) : SV := .c ⟨Int, rInt .i64, x⟩
abbrev IK (k : IntKind) (x : Int) : SV := .c ⟨Int, rInt k, x⟩
abbrev B (b : Bool) : SV := .c ⟨Bool, rBool, b⟩
abbrev Str (s : ByteArray) : SV := .c ⟨ByteArray, rStr, s⟩
abbrev Er (T : TypeId) (e : Option Int) : SV := .c ⟨Option Int, rErr T, e⟩
abbrev SL {α : Type} (n : Nat) (c : α → List It) (l : List α) : SV := .c ⟨List α, rSl n c, l⟩
abbrev iI (x : Int) : It := ⟨Int, rInt .i64, x⟩
abbrev iK (k : IntKind) (x : Int) : It := ⟨Int, rInt k, x⟩
abbrev iB (b : Bool) : It := ⟨Bool, rBool, b⟩
abbrev iStr (s : ByteArray) : It := ⟨ByteArray, rStr, s⟩
abbrev iEr (T : TypeId) (e : Option Int) : It := ⟨Option Int, rErr T, e⟩
abbrev iSL {α : Type} (n : Nat) (c : α → List It) (l : List α) : It := ⟨List α, rSl n c, l⟩
/-- a slice of ints -/
abbrev cI (x : Int) : List It := [iI x]

inductive Can (S : List (Nat × SV)) : Operand → SV → Prop
  | tmp {s : Nat} {sv : SV} (i : Nat) (h : S[i]? = some (s, sv)) : Can S (.tmp s) sv
  | cd {s : Nat} {b : Bool} {sv : SV} (i : Nat) (h : S[i]? = some (s, .cd b sv)) (hb : b = true) : Can S (.tmp s) sv
  | const {v : Value} {sv : SV} (h : ∀ w G V, sv.holds w G V v) : Can S (.const v) sv

theorem Can.int (S : List (Nat × SV)) (k : IntKind) (n : Int) : Can S (.const (.int k n)) (IK k n) := .const fun _ _ _ => rfl
theorem Can.bool (S : List (Nat × SV)) (b : Bool) : Can S (.const (.bool b)) (B b) := .const fun _ _ _ => rfl
theorem Can.str (S : List (Nat × SV)) (s : ByteArray) : Can S (.const (.string s)) (Str s) := .const fun _ _ _ => rfl
theorem Can.nilE (S : List (Nat × SV)) (T : TypeId) : Can S (.const .nilIface) (Er T none) := .const fun _ _ _ => rfl
theorem Can.nilS (S : List (Nat × SV)) {α : Type} (n : Nat) (c : α → List It) : Can S (.const (.slice none 0 0)) (SL n c []) := .const fun _ _ _ => ⟨none, 0, rfl, Nat.le_refl _, fun h => absurd rfl h⟩
theorem Can.raw (S : List (Nat × SV)) (v : Value) : Can S (.const v) (.raw v) := .const fun _ _ _ => rfl

theorem Can.eval {S : List (Nat × SV)} {e : Operand} {sv : SV} (h : Can S e sv) {N : Nat} {a : Act} {w : World} {G : Good} {V : Nat → Value} (hS : Slots N a w G V S) : sv.holds w G V (a.eval e) := by
  cases h with
  | tmp i h =>
    obtain ⟨_, v, hv, hh⟩ := hS _ (List.mem_of_getElem? h)
    simp only [Act.eval, Array.getD_eq_getD_getElem?, hv, Option.getD_some]; exact hh
  | cd i h hb =>
    obtain ⟨_, v, hv, hh⟩ := hS _ (List.mem_of_getElem? h)
    simp only [Act.eval, Array.getD_eq_getD_getElem?, hv, Option.getD_some]; exact hh.1 hb
  | const h => exact h w G V

section
variable {P : Program} {x : Cx} {S : List (Nat × SV)} {O : List (Nat × Ob)} {d : Option Nat} {ty : TypeId} {pos : String} {aft : Array Edge} {g : Option (Nat × Bool)}

theorem op_move {e : Operand} {sv : SV} (h : Can S e sv) : OpX P x S O ⟨d, .move e, ty, pos, aft, g⟩ sv O allp := .pure fun a w G V _ hS => ⟨_, rfl, h.eval hS⟩
theorem op_assign {e : Operand} {sv : SV} (h : Can S e sv) : OpX P x S O ⟨d, .assign e, ty, pos, aft, g⟩ sv O allp := .pure fun a w G V _ hS => ⟨_, rfl, h.eval hS⟩

theorem op_pick {ec ea eb : Operand} {c : Bool} {sa sb sv : SV} (hc : Can S ec (B c)) (ha : c = true → Can S ea sa) (hb : c = false → Can S eb sb) (h1 : c = true → sa = sv) (h2 : c = false → sb = sv) :
    OpX P x S O ⟨d, .pick ec ea eb, ty, pos, aft, g⟩ sv O allp := .pure fun a w G V _ hS => by
  have h := hc.eval hS
  change a.eval ec = .bool c at h
  cases c with
  | true => exact ⟨_, by simp [execOp, h, asBool]; rfl, by rw [← h1 rfl]; exact (ha rfl).eval hS⟩
  | false => exact ⟨_, by simp [execOp, h, asBool]; rfl, by rw [← h2 rfl]; exact (hb rfl).eval hS⟩

theorem run_noGuard {op : BinOp} {t : TypeId} {ex ey : Operand} {k k' : IntKind} {p q : Int} {w : World} : (eqGuard op t ex ey (.int k p) (.int k' q)).run P w = .ok () w := by
  unfold eqGuard; cases op <;> simp

section
variable {k : IntKind} {t ty' : TypeId} {ex ey : Operand} {p q : Int} (hx : Can S ex (IK k p)) (hy : Can S ey (IK k q))
include hx hy

theorem op_bin (bop : BinOp) {sv : SV} {v : Value} (hr : ∀ w, (binOp bop t (.int k p) (.int k q)).run P w = .ok v w) (hv : ∀ w G V, sv.holds w G V v) : OpX P x S O ⟨d, .binOp bop t ex ey ty', ty, pos, aft, g⟩ sv O allp := .pure fun a w G V _ hS => by
  have h1 : a.eval ex = .int k p := hx.eval hS
  have h2 : a.eval ey = .int k q := hy.eval hS
  exact ⟨v, by simp [execOp, h1, h2, run_noGuard, hr], hv w G V⟩

theorem op_add : OpX P x S O ⟨d, .binOp .add t ex ey ty', ty, pos, aft, g⟩ (IK k (k.wrap (p + q))) O allp := op_bin hx hy .add (v := .int k (k.wrap (p + q))) (fun w => by simp [binOp, Op.intArith]) fun _ _ _ => rfl
theorem op_sub : OpX P x S O ⟨d, .binOp .sub t ex ey ty', ty, pos, aft, g⟩ (IK k (k.wrap (p - q))) O allp := op_bin hx hy .sub (v := .int k (k.wrap (p - q))) (fun w => by simp [binOp, Op.intArith]) fun _ _ _ => rfl
theorem op_mul : OpX P x S O ⟨d, .binOp .mul t ex ey ty', ty, pos, aft, g⟩ (IK k (k.wrap (p * q))) O allp := op_bin hx hy .mul (v := .int k (k.wrap (p * q))) (fun w => by simp [binOp, Op.intArith]) fun _ _ _ => rfl
theorem op_quo (hq : q ≠ 0) : OpX P x S O ⟨d, .binOp .quo t ex ey ty', ty, pos, aft, g⟩ (IK k (k.wrap (p.tdiv q))) O allp := op_bin hx hy .quo (v := .int k (k.wrap (p.tdiv q))) (fun w => by simp [binOp, Op.intDiv, hq]) fun _ _ _ => rfl
theorem op_rem (hq : q ≠ 0) : OpX P x S O ⟨d, .binOp .rem t ex ey ty', ty, pos, aft, g⟩ (IK k (p.tmod q)) O allp := op_bin hx hy .rem (v := .int k (p.tmod q)) (fun w => by simp [binOp, Op.intDiv, hq]) fun _ _ _ => rfl
theorem op_eql : OpX P x S O ⟨d, .binOp .eql t ex ey ty', ty, pos, aft, g⟩ (B (p == q)) O allp := op_bin hx hy .eql (v := .bool (p == q)) (fun w => by simp [binOp, Op.intCmp]) fun _ _ _ => rfl
theorem op_neq : OpX P x S O ⟨d, .binOp .neq t ex ey ty', ty, pos, aft, g⟩ (B (p != q)) O allp := op_bin hx hy .neq (v := .bool (p != q)) (fun w => by simp [binOp, Op.intCmp]) fun _ _ _ => rfl
theorem op_lss : OpX P x S O ⟨d, .binOp .lss t ex ey ty', ty, pos, aft, g⟩ (B (decide (p < q))) O allp := op_bin hx hy .lss (v := .bool (decide (p < q))) (fun w => by simp [binOp, Op.intCmp]) fun _ _ _ => rfl
theorem op_leq : OpX P x S O ⟨d, .binOp .leq t ex ey ty', ty, pos, aft, g⟩ (B (decide (p ≤ q))) O allp := op_bin hx hy .leq (v := .bool (decide (p ≤ q))) (fun w => by simp [binOp, Op.intCmp]) fun _ _ _ => rfl
theorem op_gtr : OpX P x S O ⟨d, .binOp .gtr t ex ey ty', ty, pos, aft, g⟩ (B (decide (p > q))) O allp := op_bin hx hy .gtr (v := .bool (decide (p > q))) (fun w => by simp [binOp, Op.intCmp]) fun _ _ _ => rfl
theorem op_geq : OpX P x S O ⟨d, .binOp .geq t ex ey ty', ty, pos, aft, g⟩ (B (decide (p ≥ q))) O allp := op_bin hx hy .geq (v := .bool (decide (p ≥ q))) (fun w => by simp [binOp, Op.intCmp]) fun _ _ _ => rfl
end

theorem run_equal1 {t : TypeId} {a b : Value} {r : Bool} {w : World} (h : ∀ d, (Op.equalIn (d + 1) t a b).run P w = .ok r w) : (Op.equal t a b).run P w = .ok r w := h 9999

theorem run_eqNil {T t : TypeId} {e : Option Int} {ms : Array (String × TypeId)} (hu : P.underlying t = some (.interface ms)) (w : World) : (Op.equal t (errV T e) .nilIface).run P w = .ok e.isNone w :=
  run_equal1 fun d => by cases e <;> simp only [Op.equalIn, errV, Sem.run_bind, run_underlying hu, Result.andThen_ok] <;> rfl

theorem run_guardNil {T t : TypeId} {op : BinOp} {ex : Operand} {e : Option Int} {w : World} : (eqGuard op t ex (.const .nilIface) (errV T e) .nilIface).run P w = .ok () w := by
  unfold eqGuard; cases op <;> cases e <;> simp [errV]

/-- an error against nil -/
theorem op_eqlNil {T t ty' : TypeId} {ex : Operand} {e : Option Int} (hx : Can S ex (Er T e)) {ms : Array (String × TypeId)} (hu : P.underlying t = some (.interface ms)) :
    OpX P x S O ⟨d, .binOp .eql t ex (.const .nilIface) ty', ty, pos, aft, g⟩ (B e.isNone) O allp := .pure fun a w G V _ hS => by
  have h1 : a.eval ex = errV T e := hx.eval hS
  have h2 : (binOp .eql t (errV T e) .nilIface).run P w = .ok (.bool e.isNone) w := by
    have h3 : binOp .eql t (errV T e) .nilIface = (do pure (.bool (← Op.equal t (errV T e) .nilIface))) := by cases e <;> rfl
    rw [h3, Sem.run_bind, run_eqNil hu]; rfl
  exact ⟨.bool e.isNone, by simp only [execOp, h1, show a.eval (.const .nilIface) = .nilIface from rfl, Sem.run_bind, run_guardNil, Result.andThen_ok, h2]; rfl, rfl⟩
theorem op_neqNil {T t ty' : TypeId} {ex : Operand} {e : Option Int} (hx : Can S ex (Er T e)) {ms : Array (String × TypeId)} (hu : P.underlying t = some (.interface ms)) :
    OpX P x S O ⟨d, .binOp .neq t ex (.const .nilIface) ty', ty, pos, aft, g⟩ (B e.isSome) O allp := .pure fun a w G V _ hS => by
  have h1 : a.eval ex = errV T e := hx.eval hS
  have h2 : (binOp .neq t (errV T e) .nilIface).run P w = .ok (.bool e.isSome) w := by
    have h3 : binOp .neq t (errV T e) .nilIface = (do pure (.bool (!(← Op.equal t (errV T e) .nilIface)))) := by cases e <;> rfl
    rw [h3, Sem.run_bind, run_eqNil hu]; cases e <;> rfl
  exact ⟨.bool e.isSome, by simp only [execOp, h1, show a.eval (.const .nilIface) = .nilIface from rfl, Sem.run_bind, run_guardNil, Result.andThen_ok, h2]; rfl, rfl⟩

theorem run_eqB {t : TypeId} {p q : Bool} (hu : P.underlying t = some .bool) (w : World) : (Op.equal t (.bool p) (.bool q)).run P w = .ok (p == q) w :=
  run_equal1 fun d => by simp only [Op.equalIn, Sem.run_bind, run_underlying hu, Result.andThen_ok]; rfl
theorem run_guardB {t : TypeId} {op : BinOp} {ex ey : Operand} {p q : Bool} {w : World} : (eqGuard op t ex ey (.bool p) (.bool q)).run P w = .ok () w := by
  unfold eqGuard; cases op <;> simp

/-- two bools -/
theorem op_eqlB {t ty' : TypeId} {ex ey : Operand} {p q : Bool} (hx : Can S ex (B p)) (hy : Can S ey (B q)) (hu : P.underlying t = some .bool) :
    OpX P x S O ⟨d, .binOp .eql t ex ey ty', ty, pos, aft, g⟩ (B (p == q)) O allp := .pure fun a w G V _ hS => by
  have h1 : a.eval ex = .bool p := hx.eval hS
  have h2 : a.eval ey = .bool q := hy.eval hS
  have h3 : (binOp .eql t (.bool p) (.bool q)).run P w = .ok (.bool (p == q)) w := by
    have h4 : binOp .eql t (.bool p) (.bool q) = (do pure (.bool (← Op.equal t (.bool p) (.bool q)))) := rfl
    rw [h4, Sem.run_bind, run_eqB hu]; rfl
  exact ⟨.bool (p == q), by simp only [execOp, h1, h2, Sem.run_bind, run_guardB, Result.andThen_ok, h3]; rfl, rfl⟩
theorem op_neqB {t ty' : TypeId} {ex ey : Operand} {p q : Bool} (hx : Can S ex (B p)) (hy : Can S ey (B q)) (hu : P.underlying t = some .bool) :
    OpX P x S O ⟨d, .binOp .neq t ex ey ty', ty, pos, aft, g⟩ (B (p != q)) O allp := .pure fun a w G V _ hS => by
  have h1 : a.eval ex = .bool p := hx.eval hS
  have h2 : a.eval ey = .bool q := hy.eval hS
  have h3 : (binOp .neq t (.bool p) (.bool q)).run P w = .ok (.bool (p != q)) w := by
    have h4 : binOp .neq t (.bool p) (.bool q) = (do pure (.bool (!(← Op.equal t (.bool p) (.bool q))))) := rfl
    rw [h4, Sem.run_bind, run_eqB hu]; rfl
  exact ⟨.bool (p != q), by simp only [execOp, h1, h2, Sem.run_bind, run_guardB, Result.andThen_ok, h3]; rfl, rfl⟩

theorem run_guardS {t : TypeId} {op : BinOp} {ex ey : Operand} {p q : ByteArray} {w : World} : (eqGuard op t ex ey (.string p) (.string q)).run P w = .ok () w := by
  unfold eqGuard; cases op <;> simp

/-- two strings -/
theorem op_eqlS {t ty' : TypeId} {ex ey : Operand} {p q : ByteArray} (hx : Can S ex (Str p)) (hy : Can S ey (Str q)) :
    OpX P x S O ⟨d, .binOp .eql t ex ey ty', ty, pos, aft, g⟩ (B (p.toList == q.toList)) O allp := .pure fun a w G V _ hS => by
  have h1 : a.eval ex = .string p := hx.eval hS
  have h2 : a.eval ey = .string q := hy.eval hS
  exact ⟨.bool (p.toList == q.toList), by simp only [execOp, h1, h2, Sem.run_bind, run_guardS, Result.andThen_ok, binOp, Op.stringOp]; rfl, rfl⟩
theorem op_neqS {t ty' : TypeId} {ex ey : Operand} {p q : ByteArray} (hx : Can S ex (Str p)) (hy : Can S ey (Str q)) :
    OpX P x S O ⟨d, .binOp .neq t ex ey ty', ty, pos, aft, g⟩ (B (!(p.toList == q.toList))) O allp := .pure fun a w G V _ hS => by
  have h1 : a.eval ex = .string p := hx.eval hS
  have h2 : a.eval ey = .string q := hy.eval hS
  exact ⟨.bool (!(p.toList == q.toList)), by simp only [execOp, h1, h2, Sem.run_bind, run_guardS, Result.andThen_ok, binOp, Op.stringOp]; rfl, rfl⟩

theorem op_not {t : TypeId} {ex : Operand} {p : Bool} (hx : Can S ex (B p)) : OpX P x S O ⟨d, .unOp .not t ex, ty, pos, aft, g⟩ (B (!p)) O allp := .pure fun a w G V _ hS => by
  have h1 : a.eval ex = .bool p := hx.eval hS
  exact ⟨.bool (!p), by simp [execOp, h1, Op.unary], rfl⟩
theorem op_neg {t : TypeId} {ex : Operand} {k : IntKind} {p : Int} (hx : Can S ex (IK k p)) : OpX P x S O ⟨d, .unOp .neg t ex, ty, pos, aft, g⟩ (IK k (k.wrap (0 - p))) O allp := .pure fun a w G V _ hS => by
  have h1 : a.eval ex = .int k p := hx.eval hS
  exact ⟨.int k (k.wrap (0 - p)), by simp [execOp, h1, Op.unary, Op.intArith], rfl⟩

theorem op_extract {ex : Operand} {l : List SV} {i : Nat} {sv : SV} (hx : Can S ex (.tup l)) (hi : l[i]? = some sv) : OpX P x S O ⟨d, .extract ex i, ty, pos, aft, g⟩ sv O allp := .pure fun a w G V _ hS => by
  obtain ⟨vs, hv, hl⟩ := hx.eval hS
  have key : ∀ (l : List SV) (vs : List Value) (i : Nat), SV.holdsL w G V l vs → l[i]? = some sv → ∃ v, vs[i]? = some v ∧ sv.holds w G V v := by
    intro l
    induction l with
    | nil => intro vs i _ h; simp at h
    | cons s l ih =>
      intro vs i hl hi
      obtain ⟨v, r, rfl, hs, hl'⟩ := hl
      cases i with
      | zero => simp at hi; subst hi; exact ⟨v, rfl, hs⟩
      | succ i => exact ih r i hl' (by simpa using hi)
  obtain ⟨v, h1, h2⟩ := key l vs i hl hi
  exact ⟨v, by simp [execOp, hv, Instr.extract, h1], h2⟩

theorem op_len {t : TypeId} {ex : Operand} {α : Type} {n : Nat} {c : α → List It} {l : List α} (hx : Can S ex (SL n c l)) {e : TypeId} (hu : P.underlying t = some (.slice e)) :
    OpX P x S O ⟨d, .call { callee := .builtin .len, args := #[ex], argTypes := #[t] }, ty, pos, aft, g⟩ (I l.length) O allp := .pure fun a w G V _ hS => by
  obtain ⟨ad, cap, hv, _⟩ := hx.eval hS
  exact ⟨.int .i64 l.length, by simp [execOp, resolve, invoke, builtin, hv, Builtin.len_, run_underlying hu, goInt], rfl⟩

theorem op_lenS {t : TypeId} {ex : Operand} {s : ByteArray} (hx : Can S ex (Str s)) (hu : P.underlying t = some .string) :
    OpX P x S O ⟨d, .call { callee := .builtin .len, args := #[ex], argTypes := #[t] }, ty, pos, aft, g⟩ (I s.size) O allp := .pure fun a w G V _ hS => by
  have h1 : a.eval ex = .string s := hx.eval hS
  exact ⟨.int .i64 s.size, by simp [execOp, resolve, invoke, builtin, h1, Builtin.len_, run_underlying hu, goInt], rfl⟩

def aggB (P : Program) (t : TypeId) : Option Bool :=
  match P.underlying t with
  | some (.struct _) | some (.array _ _) => some true
  | some _ => some false
  | none => none
theorem run_aggB {t : TypeId} {b : Bool} (h : aggB P t = some b) (w : World) : (isAgg t).run P w = .ok b w := by
  unfold aggB at h
  cases hu : P.underlying t with
  | none => simp [hu] at h
  | some dd => cases dd <;> simp [hu] at h <;> subst h <;> simp [isAgg, run_underlying hu]
def sizeT (P : Program) (t : TypeId) : Option Nat := (P.info? t).map (·.size)
theorem run_sizeT {t : TypeId} {n : Nat} (h : sizeT P t = some n) (w : World) : (Go.sizeOf t).run P w = .ok n w := by
  unfold sizeT at h
  cases hi : P.info? t with
  | none => simp [hi] at h
  | some i => simp [hi] at h; subst h; simp [Go.sizeOf, typeInfo, hi]

theorem addr_add (b o k : Nat) : (⟨b, o, none⟩ : Addr).add k = ⟨b, o + k, none⟩ := by unfold Addr.add; split <;> simp_all

/-- the place of an element of data -/
theorem op_index {t e : TypeId} {ex ei : Operand} {α : Type} {n : Nat} {c : α → List It} {l : List α} {k : Int} (hx : Can S ex (SL n c l)) (hi : Can S ei (I k)) (hu : P.underlying t = some (.slice e)) (hs : sizeT P e = some n)
    {y : α} (hk : 0 ≤ k) (hy : l[k.toNat]? = some y) : OpX P x S O ⟨d, .indexAddr t ex ei, ty, pos, aft, g⟩ (.ptr (c y)) O allp := .pure fun a w G V _ hS => by
  obtain ⟨ad, cap, hv, _, hc⟩ := hx.eval hS
  have h1 : a.eval ei = .int .i64 k := hi.eval hS
  obtain ⟨hlt, hget⟩ := List.getElem?_eq_some_iff.1 hy
  obtain ⟨b, off, rfl, hb, hcell⟩ := hc (by intro h; subst h; simp at hlt)
  refine ⟨.pointer (some ⟨b, off + k.toNat * n, none⟩), ?_, b, _, rfl, hb, ?_⟩
  · have hlt' : k < l.length := by omega
    simp [execOp, hv, h1, Instr.indexAt, asIntOf, run_underlying hu, run_sizeT hs, hk, hlt', addr_add]
  · rw [← hget]; exact hcell k.toNat hlt

def offT (P : Program) (s : TypeId) (f : Nat) : Option Nat :=
  match P.underlying s with
  | some (.struct fields) => match fields[f]? with
    | some fd => match sizeT P fd.type with
      | some (_ + 1) => some fd.offset
      | _ => none
    | none => none
  | _ => none
theorem run_fieldAt {s : TypeId} {f o : Nat} (h : offT P s f = some o) (w : World) (b off : Nat) : (Instr.fieldAt s (.pointer (some ⟨b, off, none⟩)) f).run P w = .ok (.pointer (some ⟨b, off + o, none⟩)) w := by
  unfold offT at h
  cases hu : P.underlying s with
  | none => simp [hu] at h
  | some dd =>
    cases dd <;> simp only [hu] at h <;> try (cases h; done)
    rename_i fields
    cases hf : fields[f]? with
    | none => simp [hf] at h
    | some fd =>
      simp only [hf] at h
      cases hs : sizeT P fd.type with
      | none => simp [hs] at h
      | some m =>
        cases m with
        | zero => simp [hs] at h
        | succ m =>
          simp [hs] at h
          subst h
          simp [Instr.fieldAt, run_underlying hu, hf, Instr.sureAddr, fieldPlace, run_sizeT hs, addr_add]

/-- the place of a field of data -/
theorem op_field {s : TypeId} {ex : Operand} {f o : Nat} {l : List It} (hx : Can S ex (.ptr l)) (ho : offT P s f = some o) : OpX P x S O ⟨d, .fieldAddr s ex f, ty, pos, aft, g⟩ (.ptr (l.drop o)) O allp := .pure fun a w G V _ hS => by
  obtain ⟨b, off, hv, hb, hc⟩ := hx.eval hS
  refine ⟨.pointer (some ⟨b, off + o, none⟩), by simp [execOp, hv, run_fieldAt ho], b, _, rfl, hb, ?_⟩
  intro j hj
  obtain ⟨u, h1, h2⟩ := hc (o + j) (by simp at hj; omega)
  exact ⟨u, by rw [← h1, Nat.add_assoc], by simpa using h2⟩

/-- one cell of data -/
theorem op_load1 {t : TypeId} {ex : Operand} {i : It} {l : List It} (hx : Can S ex (.ptr (i :: l))) (ha : aggB P t = some false) : OpX P x S O ⟨d, .load t ex, ty, pos, aft, g⟩ (.c i) O allp := .pure fun a w G V _ hS => by
  obtain ⟨b, off, hv, hb, hc⟩ := hx.eval hS
  obtain ⟨u, h1, h2⟩ := hc 0 (by simp)
  simp only [Nat.add_zero] at h1
  exact ⟨u, by simp [execOp, hv, Instr.loadAt, Instr.sureAddr, loadVar, run_aggB ha, h1], h2⟩

theorem run_loadAgg {t : TypeId} {n : Nat} (ha : aggB P t = some true) (hs : sizeT P t = some n) {w : World} {b off : Nat} {us : List Value} (hl : us.length = n) (hc : ∀ j (h : j < us.length), w.cell? ⟨b, off + j, none⟩ = some us[j]) :
    (loadVar t ⟨b, off, none⟩).run P w = .ok (.agg us.toArray) w := by
  have := run_loadCells_list (P := P) w ⟨b, off, none⟩ us (fun j v h => by
    obtain ⟨h1, h2⟩ := List.getElem?_eq_some_iff.1 h
    rw [addr_add, hc j h1, h2])
  rw [hl] at this
  simp [loadVar, run_aggB ha, run_sizeT hs, this]

theorem cellsAt.list {w : World} {G : Good} {b off : Nat} {l : List It} (h : cellsAt w G b off l) : ∃ us : List Value, us.length = l.length ∧ (∀ j (h : j < us.length), w.cell? ⟨b, off + j, none⟩ = some us[j]) ∧ cellsRd w G us l := by
  induction l generalizing off with
  | nil => exact ⟨[], rfl, by simp, trivial⟩
  | cons i l ih =>
    obtain ⟨u, h1, h2⟩ := h 0 (by simp)
    obtain ⟨us, h3, h4, h5⟩ := ih (off := off + 1) (fun j hj => by
      obtain ⟨v, h6, h7⟩ := h (j + 1) (by simpa using hj)
      exact ⟨v, by rw [← h6]; congr 2; omega, by simpa using h7⟩)
    refine ⟨u :: us, by simp [h3], ?_, h2, h5⟩
    intro j hj
    cases j with
    | zero => simpa using h1
    | succ j =>
      have := h4 j (by simpa using hj)
      rw [show off + (j + 1) = off + 1 + j by omega]
      simpa using this

/-- a whole struct of data -/
theorem op_loadA {t : TypeId} {ex : Operand} {l : List It} (l' : List It) (hx : Can S ex (.ptr l)) (ha : aggB P t = some true) (hs : sizeT P t = some l'.length) (hl : l.take l'.length = l') : OpX P x S O ⟨d, .load t ex, ty, pos, aft, g⟩ (.agg l') O allp := .pure fun a w G V _ hS => by
  obtain ⟨b, off, hv, hb, hc⟩ := hx.eval hS
  have hc' : cellsAt w G b off l' := by
    intro j hj
    rw [← hl] at hj
    obtain ⟨u, h1, h2⟩ := hc j (by simp at hj; omega)
    refine ⟨u, h1, ?_⟩
    have : (l.take l'.length)[j] = l[j]'(by simp at hj; omega) := by simp
    rw [← this] at h2
    simpa only [hl] using h2
  obtain ⟨us, h3, h4, h5⟩ := hc'.list
  exact ⟨.agg us.toArray, by simp [execOp, hv, Instr.loadAt, Instr.sureAddr, run_loadAgg ha hs h3 h4], us, rfl, h5⟩

/-- a field of a struct in registers -/
theorem op_fieldV {s ft : TypeId} {ex : Operand} {f o : Nat} {l : List It} {i : It} (hx : Can S ex (.agg l)) (hr : ∀ w cs, (Instr.field s (.agg cs) f).run P w = (part ft cs o).run P w) (ha : aggB P ft = some false) (hi : l[o]? = some i) :
    OpX P x S O ⟨d, .field s ex f, ty, pos, aft, g⟩ (.c i) O allp := .pure fun a w G V _ hS => by
  obtain ⟨cs, hv, hc⟩ := hx.eval hS
  obtain ⟨h1, h2⟩ := List.getElem?_eq_some_iff.1 hi
  have h3 : o < cs.length := by rw [hc.length]; exact h1
  refine ⟨cs[o], ?_, by rw [← h2]; exact hc.get o h1 h3⟩
  simp [execOp, hv, hr, part, run_aggB ha, h3]

/-- an error made of a number -/
theorem op_mkErr {T : TypeId} {ex : Operand} {n : Int} (hx : Can S ex (I n)) {dsc : TypeDesc} (hu : P.underlying T = some dsc) (hd : ∀ ms, dsc ≠ .interface ms) : OpX P x S O ⟨d, .makeInterface T ex, ty, pos, aft, g⟩ (Er T (some n)) O allp := .pure fun a w G V _ hS => by
  have h1 : a.eval ex = .int .i64 n := hx.eval hS
  refine ⟨.iface T (.int .i64 n), ?_, rfl⟩
  cases dsc <;> first | (exact absurd rfl (hd _)) | simp [execOp, h1, Instr.makeInterface, run_underlying hu]

theorem op_nilCheck {ex : Operand} {l : List It} (hx : Can S ex (.ptr l)) : OpX P x S O ⟨d, .nilCheck ex, ty, pos, aft, g⟩ (.ptr l) O allp := .pure fun a w G V _ hS => by
  obtain ⟨b, off, hv, hb, hc⟩ := hx.eval hS
  exact ⟨_, by simp only [execOp, hv]; rfl, b, off, rfl, hb, hc⟩

end
end Go.Dl
