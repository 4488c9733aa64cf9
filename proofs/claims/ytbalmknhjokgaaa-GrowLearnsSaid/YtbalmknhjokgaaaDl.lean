/- The data level: a state assertion that says which slot of a running call holds which datum, the memory behind it hidden. Program-generic; one lemma an operation. -/
import Derived.WalkKit
import Derived.Deep.LoopGhost
import Derived.Test.YtbalmknhjokgaaaDlF
set_option linter.unusedVariables false
namespace Go.Dl
open Go Go.RowKit

/-- Blocks that may be looked at. -/
abbrev Good := Nat → Prop

/-- How a datum stands in one cell. -/
structure Rep (α : Type) where
  rd : World → Good → Value → α → Prop
  mono : ∀ {w w' : World} {G G' : Good} {v : Value} {d : α}, (∀ k, G k → w'.heap[k]? = w.heap[k]?) → (∀ k, G k → G' k) → rd w G v d → rd w' G' v d
  one : ∀ {w : World} {G : Good} {v : Value} {d : α}, rd w G v d → v.oneCell' = true

/-- One cell's datum. -/
structure It : Type 1 where
  α : Type
  r : Rep α
  d : α

def It.rd (i : It) (w : World) (G : Good) (v : Value) : Prop := i.r.rd w G v i.d

theorem It.mono {i : It} {w w' : World} {G G' : Good} {v : Value} (h1 : ∀ k, G k → w'.heap[k]? = w.heap[k]?) (h2 : ∀ k, G k → G' k) (h : i.rd w G v) : i.rd w' G' v := i.r.mono h1 h2 h

def rInt (k : IntKind) : Rep Int where
  rd _ _ v x := v = .int k x
  mono _ _ h := h
  one h := by subst h; rfl
def rBool : Rep Bool where
  rd _ _ v x := v = .bool x
  mono _ _ h := h
  one h := by subst h; rfl
def rStr : Rep ByteArray where
  rd _ _ v x := v = .string x
  mono _ _ h := h
  one h := by subst h; rfl
/-- An error that is nil (none) or a number of the type T. -/
def errV (T : TypeId) : Option Int → Value
  | none => .nilIface
  | some n => .iface T (.int .i64 n)
def rErr (T : TypeId) : Rep (Option Int) where
  rd _ _ v x := v = errV T x
  mono _ _ h := h
  one h := by subst h; rename_i d; cases d <;> rfl

/-- Cells from an address on. -/
def cellsAt (w : World) (G : Good) (b off : Nat) (its : List It) : Prop :=
  ∀ j (h : j < its.length), ∃ u, w.cell? ⟨b, off + j, none⟩ = some u ∧ (its[j]).rd w G u

theorem cell_same {w w' : World} {b : Nat} (h : w'.heap[b]? = w.heap[b]?) (o : Nat) : w'.cell? ⟨b, o, none⟩ = w.cell? ⟨b, o, none⟩ := World.cell?_of_block (w := w) (a := ⟨b, o, none⟩) h

theorem cellsAt.mono {w w' : World} {G G' : Good} {b off : Nat} {its : List It} (hb : G b) (h1 : ∀ k, G k → w'.heap[k]? = w.heap[k]?) (h2 : ∀ k, G k → G' k) (h : cellsAt w G b off its) : cellsAt w' G' b off its := by
  intro j hj
  obtain ⟨u, hu, hr⟩ := h j hj
  exact ⟨u, by rw [cell_same (h1 b hb)]; exact hu, It.mono h1 h2 hr⟩

/-- A slice that nobody writes: the element's cells by c. -/
def rSl {α : Type} (n : Nat) (c : α → List It) : Rep (List α) where
  rd w G v l := ∃ a cap, v = .slice a l.length cap ∧ l.length ≤ cap ∧
    (l ≠ [] → ∃ b off, a = some ⟨b, off, none⟩ ∧ G b ∧ ∀ i (h : i < l.length), cellsAt w G b (off + i * n) (c l[i]))
  mono h1 h2 h := by
    obtain ⟨a, cap, hv, hc, h⟩ := h
    refine ⟨a, cap, hv, hc, fun hl => ?_⟩
    obtain ⟨b, off, ha, hb, hx⟩ := h hl
    exact ⟨b, off, ha, h2 b hb, fun i hi => (hx i hi).mono hb h1 h2⟩
  one h := by obtain ⟨a, cap, hv, _⟩ := h; subst hv; rfl

/-- The cells of a struct that lies in registers. -/
def cellsRd (w : World) (G : Good) : List Value → List It → Prop
  | [], [] => True
  | u :: us, i :: is => i.rd w G u ∧ cellsRd w G us is
  | _, _ => False

theorem cellsRd.mono {w w' : World} {G G' : Good} (h1 : ∀ k, G k → w'.heap[k]? = w.heap[k]?) (h2 : ∀ k, G k → G' k) : ∀ {us : List Value} {is : List It}, cellsRd w G us is → cellsRd w' G' us is
  | [], [], _ => trivial
  | _ :: _, _ :: _, h => ⟨It.mono h1 h2 h.1, cellsRd.mono h1 h2 h.2⟩
  | [], _ :: _, h => h.elim
  | _ :: _, [], h => h.elim

theorem cellsRd.length {w : World} {G : Good} : ∀ {us : List Value} {is : List It}, cellsRd w G us is → us.length = is.length
  | [], [], _ => rfl
  | _ :: _, _ :: _, h => by simp [cellsRd.length h.2]
  | [], _ :: _, h => h.elim
  | _ :: _, [], h => h.elim

theorem cellsRd.get {w : World} {G : Good} : ∀ {us : List Value} {is : List It}, cellsRd w G us is → ∀ j (h : j < is.length) (h' : j < us.length), (is[j]).rd w G us[j]
  | _ :: _, _ :: _, h, 0, _, _ => h.1
  | _ :: _, _ :: _, h, j + 1, hj, hj' => cellsRd.get h.2 j (by simpa using hj) (by simpa using hj')
  | [], [], _, _, h, _ => by simp at h
  | [], _ :: _, h, _, _, _ => h.elim
  | _ :: _, [], h, _, _, _ => h.elim

theorem cellsRd.of {w : World} {G : Good} : ∀ {us : List Value} {is : List It}, us.length = is.length → (∀ j (h : j < is.length) (h' : j < us.length), (is[j]).rd w G us[j]) → cellsRd w G us is
  | [], [], _, _ => trivial
  | u :: us, i :: is, hl, h => ⟨h 0 (by simp) (by simp), cellsRd.of (by simpa using hl) fun j hj hj' => h (j + 1) (by simpa using hj) (by simpa using hj')⟩
  | [], _ :: _, hl, _ => by simp at hl
  | _ :: _, [], hl, _ => by simp at hl

theorem cellsRd.append {w : World} {G : Good} : ∀ {us us' : List Value} {is is' : List It}, cellsRd w G us is → cellsRd w G us' is' → cellsRd w G (us ++ us') (is ++ is')
  | [], _, [], _, _, h => h
  | _ :: _, _, _ :: _, _, h, h' => ⟨h.1, cellsRd.append h.2 h'⟩
  | [], _, _ :: _, _, h, _ => h.elim
  | _ :: _, _, [], _, h, _ => h.elim

theorem cellsRd.one {w : World} {G : Good} : ∀ {us : List Value} {is : List It}, cellsRd w G us is → ∀ u ∈ us, u.oneCell' = true
  | [], [], _ => by simp
  | v :: vs, i :: is, h => by
    intro u hu
    rcases List.mem_cons.1 hu with rfl | hu
    · exact i.r.one h.1
    · exact cellsRd.one h.2 u hu
  | [], _ :: _, h => h.elim
  | _ :: _, [], h => h.elim

/-- What a slot holds. -/
inductive SV : Type 1
  | c (i : It)
  | agg (l : List It)
  | ptr (l : List It)
  | ref (k : Nat)
  | pt (k off : Nat)
  | raw (v : Value)
  | hdr (n : Nat)
  | cd (b : Bool) (s : SV)
  | tup (l : List SV)
  | clo (f : Nat) (l : List SV)

def blk : Value → Option Nat
  | .slice (some a) _ _ => some a.block
  | .pointer (some a) => some a.block
  | .map (some r) => some r
  | _ => none
/-- The block of a row: none, where there is no room. -/
def blkR : Value → Option Nat
  | .slice (some a) _ (_ + 1) => some a.block
  | _ => none
/-- A row of the call's own; one without room may stand anywhere. -/
def ownsR (w : World) (t : TypeId) (n : Nat) (v : Value) (m : Nat) (xs : List Value) : Prop := w.ownsRow 0 t n v m xs ∨ (m = 0 ∧ xs = [] ∧ ∃ a, v = .slice a 0 0)
theorem blkR_blk {v : Value} {b : Nat} (h : blkR v = some b) : blk v = some b := by
  unfold blkR at h
  split at h
  · exact h
  · cases h
theorem blkR_at {a : Option Addr} {m cap b : Nat} (h : blkR (.slice a m cap) = some b) : 0 < cap ∧ ∃ x, a = some x ∧ x.block = b := by
  unfold blkR at h
  split at h
  · rename_i heq
    simp only [Value.slice.injEq] at heq
    obtain ⟨rfl, rfl, rfl⟩ := heq
    exact ⟨by omega, _, rfl, Option.some.inj h⟩
  · cases h
theorem blkR_mk {x : Addr} {m cap : Nat} (h : 0 < cap) : blkR (.slice (some x) m cap) = some x.block := by
  obtain ⟨c, rfl⟩ : ∃ c, cap = c + 1 := ⟨cap - 1, by omega⟩
  rfl

mutual
def SV.holds (w : World) (G : Good) (V : Nat → Value) : SV → Value → Prop
  | .c i, v => i.rd w G v
  | .agg l, v => ∃ cs : List Value, v = .agg cs.toArray ∧ cellsRd w G cs l
  | .ptr l, v => ∃ b off, v = .pointer (some ⟨b, off, none⟩) ∧ G b ∧ cellsAt w G b off l
  | .ref k, v => v = V k
  | .pt k off, v => ∃ b, blk (V k) = some b ∧ v = .pointer (some ⟨b, off, none⟩)
  | .raw u, v => v = u
  | .hdr n, v => ∃ a c, v = .slice a n c
  | .cd b s, v => (b = true → s.holds w G V v) ∧ (b = false → v = undef)
  | .tup l, v => ∃ vs : List Value, v = .tuple vs.toArray ∧ SV.holdsL w G V l vs
  | .clo f l, v => ∃ vs : List Value, v = .func (.func f) #[] vs.toArray ∧ SV.holdsL w G V l vs
def SV.holdsL (w : World) (G : Good) (V : Nat → Value) : List SV → List Value → Prop
  | [], vs => vs = []
  | s :: l, vs => ∃ v r, vs = v :: r ∧ s.holds w G V v ∧ SV.holdsL w G V l r
end

/-- No object of which p holds is named. -/
def SV.ok (p : Nat → Bool) : SV → Bool
  | .ref k => p k
  | .pt k _ => p k
  | .cd _ s => s.ok p
  | .tup l => SV.okL p l
  | .clo _ l => SV.okL p l
  | _ => true
where SV.okL (p : Nat → Bool) : List SV → Bool
  | [] => true
  | s :: l => s.ok p && SV.okL p l

mutual
theorem SV.holds_mono {w w' : World} {G G' : Good} {V V' : Nat → Value} {p : Nat → Bool} (h1 : ∀ k, G k → w'.heap[k]? = w.heap[k]?) (h2 : ∀ k, G k → G' k) (hV : ∀ k, p k = true → V' k = V k) :
    ∀ (s : SV) (v : Value), s.ok p = true → s.holds w G V v → s.holds w' G' V' v
  | .c i, v, _, h => It.mono h1 h2 h
  | .agg l, v, _, h => by
    obtain ⟨cs, hv, hc⟩ := h
    exact ⟨cs, hv, hc.mono h1 h2⟩
  | .ptr l, v, _, h => by
    obtain ⟨b, off, hv, hb, hc⟩ := h
    exact ⟨b, off, hv, h2 b hb, hc.mono hb h1 h2⟩
  | .ref k, v, ho, h => by
    have h' : v = V k := h
    show v = V' k
    rw [hV k ho, h']
  | .pt k off, v, ho, h => by
    obtain ⟨b, hb, hv⟩ := h
    exact ⟨b, by rw [hV k ho]; exact hb, hv⟩
  | .raw u, v, _, h => h
  | .hdr n, v, _, h => h
  | .cd b s, v, ho, h => ⟨fun hb => SV.holds_mono h1 h2 hV s v ho (h.1 hb), h.2⟩
  | .tup l, v, ho, h => by
    obtain ⟨vs, hv, hl⟩ := h
    exact ⟨vs, hv, SV.holdsL_mono h1 h2 hV l vs ho hl⟩
  | .clo f l, v, ho, h => by
    obtain ⟨vs, hv, hl⟩ := h
    exact ⟨vs, hv, SV.holdsL_mono h1 h2 hV l vs ho hl⟩
theorem SV.holdsL_mono {w w' : World} {G G' : Good} {V V' : Nat → Value} {p : Nat → Bool} (h1 : ∀ k, G k → w'.heap[k]? = w.heap[k]?) (h2 : ∀ k, G k → G' k) (hV : ∀ k, p k = true → V' k = V k) :
    ∀ (l : List SV) (vs : List Value), SV.ok.SV.okL p l = true → SV.holdsL w G V l vs → SV.holdsL w' G' V' l vs
  | [], vs, _, h => h
  | s :: l, vs, ho, h => by
    obtain ⟨v, r, hv, hs, hl⟩ := h
    simp only [SV.ok.SV.okL, Bool.and_eq_true] at ho
    exact ⟨v, r, hv, SV.holds_mono h1 h2 hV s v ho.1 hs, SV.holdsL_mono h1 h2 hV l r ho.2 hl⟩
end

/-- An object of several blocks: how a datum stands in it; which blocks it takes. 'n': values that have names (of what lies within). -/
structure Deep (α : Type) where
  holds : World → Good → Value → α → List (Nat × Value) → Prop
  foot : World → Value → Good
  mono : ∀ {w w' : World} {G G' : Good} {v : Value} {a : α} {n : List (Nat × Value)}, (∀ k, G k → w'.heap[k]? = w.heap[k]?) → (∀ k, G k → G' k) → (∀ b, foot w v b → w'.heap[b]? = w.heap[b]?) → holds w G v a n → holds w' G' v a n
  keep : ∀ {w w' : World} {G : Good} {v : Value} {a : α} {n : List (Nat × Value)}, (∀ b, foot w v b → w'.heap[b]? = w.heap[b]?) → holds w G v a n → ∀ b, foot w' v b → foot w v b

/-- What the call itself owns. -/
inductive Ob : Type 1
  | row (t : TypeId) (n : Nat) {α : Type} (c : α → List It) (l : List α)
  | var (t : TypeId) (cs : List SV)
  | deep {α : Type} (R : Deep α) (a : α) (n : List (Nat × Nat))

/-- The blocks that an object takes. -/
def Ob.foot (w : World) (v : Value) : Ob → Good
  | .row _ _ _ _ => fun b => blkR v = some b
  | .var _ _ => fun b => blk v = some b
  | .deep R _ _ => R.foot w v

def cellsSV (w : World) (G : Good) (V : Nat → Value) : List SV → List Value → Prop
  | [], us => us = []
  | s :: l, us => ∃ u r, us = u :: r ∧ s.holds w G V u ∧ u.oneCell' = true ∧ cellsSV w G V l r

def Ob.holds (w : World) (G : Good) (V : Nat → Value) (v : Value) : Ob → Prop
  | .row t n c l => ∃ xs : List Value, ownsR w t n v l.length xs ∧ cellsRd w G xs (l.flatMap c) ∧ ∀ x ∈ l, (c x).length = n
  | .var t cs => ∃ b cur, v = .pointer (some ⟨b, 0, none⟩) ∧ w.heap[b]? = some (.cells cur t (0, 0)) ∧ cellsSV w G V cs cur.toList
  | .deep R a n => R.holds w G v a (n.map fun e => (e.1, V e.2))

/-- World w0 but for the blocks of E. -/
structure Upd (E : Good) (w w' : World) : Prop where
  os : w'.os = w.os
  tape : w'.tape = w.tape
  output : w'.output = w.output
  size : w.heap.size ≤ w'.heap.size
  block : ∀ k, k < w.heap.size → ¬ E k → w'.heap[k]? = w.heap[k]?

theorem Upd.refl (E : Good) (w : World) : Upd E w w := ⟨rfl, rfl, rfl, Nat.le_refl _, fun _ _ _ => rfl⟩
theorem Upd.trans {E F : Good} {a b c : World} (h : Upd E a b) (k : Upd F b c) (hF : ∀ i, F i → i < a.heap.size → E i) : Upd E a c :=
  ⟨k.os.trans h.os, k.tape.trans h.tape, k.output.trans h.output, Nat.le_trans h.size k.size,
   fun i hi he => (k.block i (Nat.lt_of_lt_of_le hi h.size) (fun hf => he (hF i hf hi))).trans (h.block i hi he)⟩
theorem Upd.below {w w' : World} (h : Upd (fun _ => False) w w') : Below w.heap.size w w' := ⟨h.os, h.tape, h.output, h.size, fun k hk => h.block k hk (fun f => f)⟩

/-- A call under way: the world it began in; the blocks of what was handed to it to be written; what it may read; how many slots; which objects came in (their values V0), and which names may stand for them. -/
structure Cx where
  w0 : World
  E : Good
  G0 : Good
  N : Nat
  V0 : Nat → Value
  ids : List Nat
  old : Nat → Bool

/-- Package variables that are never written: block, place, value. A seat without any has none. -/
def gls : List (Nat × Nat × Value) := []
def Gl (w : World) (G : Good) : Prop := ∀ e ∈ gls, G e.1 ∧ w.cell? ⟨e.1, e.2.1, none⟩ = some e.2.2
theorem Gl.mono {w w' : World} {G G' : Good} (h : Gl w G) (h1 : ∀ k, G k → w'.heap[k]? = w.heap[k]?) (h2 : ∀ k, G k → G' k) : Gl w' G' := fun e he => by
  obtain ⟨a, b⟩ := h e he
  exact ⟨h2 _ a, by rw [cell_same (h1 _ a)]; exact b⟩

structure Sep (x : Cx) (w : World) (G : Good) (V : Nat → Value) (O : List (Nat × Ob)) : Prop where
  up : Upd x.E x.w0 w
  good : ∀ k, G k → k < w.heap.size
  g0 : ∀ k, x.G0 k → G k
  g1 : ∀ k, G k → x.G0 k ∨ x.w0.heap.size ≤ k
  obs : ∀ e ∈ O, e.2.holds w G V (V e.1)
  own : ∀ e ∈ O, ∀ b, e.2.foot w (V e.1) b → b < w.heap.size ∧ ¬ G b ∧ (x.w0.heap.size ≤ b ∨ (x.E b ∧ x.old e.1 = true))
  apart : ∀ e ∈ O, ∀ e' ∈ O, e.1 ≠ e'.1 → ∀ b, e.2.foot w (V e.1) b → ¬ e'.2.foot w (V e'.1) b
  gl : Gl w G

def Slots (N : Nat) (a : Act) (w : World) (G : Good) (V : Nat → Value) (S : List (Nat × SV)) : Prop :=
  ∀ e ∈ S, e.1 < N ∧ ∃ v, a.tmps[e.1]? = some v ∧ e.2.holds w G V v

/-- THE STATE: slots and what they hold; what the call owns. -/
def St (x : Cx) (a : Act) (w : World) (S : List (Nat × SV)) (O : List (Nat × Ob)) : Prop :=
  ∃ G V, Sep x w G V O ∧ a.defers = [] ∧ a.tmps.size = x.N ∧ Slots x.N a w G V S ∧ ∀ k ∈ x.ids, V k = x.V0 k

/-- The blocks of the objects that are handed in. -/
def blks (w : World) (V : Nat → Value) (I : List (Nat × Ob)) : Good := fun b => ∃ e ∈ I, e.2.foot w (V e.1) b

/-- The call as its caller sees it. -/
def outer (w : World) (G : Good) (V : Nat → Value) (I : List (Nat × Ob)) : Cx := ⟨w, blks w V I, G, 0, V, [], fun _ => true⟩

/-- THE CONTRACT OF A FUNCTION. -/
def Fn (P : Program) (f : FuncId) (as : List SV) (I : List (Nat × Ob)) (res : SV) (O : List (Nat × Ob)) : Prop :=
  ∀ w G V vs, Sep (outer w G V I) w G V I → SV.holdsL w G V as vs →
    Calls P f vs.toArray w (fun e w' => ∃ v G' V', e = .returned v ∧ Sep (outer w G V I) w' G' V' O ∧ res.holds w' G' V' v ∧ ∀ e ∈ I, V' e.1 = V e.1)

end Go.Dl
