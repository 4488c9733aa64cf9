/- The plain functions by which the program's own are said: no program in sight. -/
import GoSem.Core.View
namespace Go.Dl

/-- an int of 64 bits -/
abbrev w64 (x : Int) : Int := IntKind.wrap .i64 x
/-- The room that an append, a make asks for. -/
abbrev LIM : Nat := 4294967296
/-- an element; none: the call would panic -/
def ix {α : Type} (l : List α) (i : Int) : Option α := if 0 ≤ i then l[i.toNat]? else none
/-- a divisor -/
def nz (b : Int) : Option Int := if b = 0 then none else some b
/-- append, where there is room -/
def app {α : Type} (l m : List α) : Option (List α) := if l.length + m.length ≤ LIM then some (l ++ m) else none
/-- make -/
def mk {α : Type} (n : Int) (z : α) : Option (List α) := if 0 ≤ n ∧ n ≤ (LIM : Int) then some (List.replicate n.toNat z) else none
/-- a piece of a list -/
def sub {α : Type} (l : List α) (lo hi : Int) : Option (List α) := if 0 ≤ lo ∧ lo ≤ hi ∧ hi ≤ l.length then some ((l.take hi.toNat).drop lo.toNat) else none
/-- what is done only where c holds -/
def gd {α : Type} (c : Bool) (m : Option α) (z : α) : Option α := if c then m else some z

theorem bnd {α β : Type} {m : Option α} {f : α → Option β} {r : β} (h : m.bind f = some r) : ∃ v, m = some v ∧ f v = some r := by
  cases m with
  | none => cases h
  | some v => exact ⟨v, rfl, h⟩
theorem ite_t {α : Type} {b : Bool} {x y : α} {r : α} (h : b = true) (k : (if b then x else y) = r) : x = r := by rwa [if_pos h] at k
theorem ite_f {α : Type} {b : Bool} {x y : α} {r : α} (h : b = false) (k : (if b then x else y) = r) : y = r := by rwa [if_neg (by rw [h]; simp)] at k
theorem ix_spec {α : Type} {l : List α} {i : Int} {y : α} (h : ix l i = some y) : 0 ≤ i ∧ l[i.toNat]? = some y := by
  unfold ix at h; split at h
  · exact ⟨‹_›, h⟩
  · cases h
theorem nz_spec {b q : Int} (h : nz b = some q) : b ≠ 0 := by unfold nz at h; split at h <;> first | (cases h; done) | assumption
theorem app_spec {α : Type} {l m v : List α} (h : app l m = some v) : l.length + m.length ≤ LIM ∧ l ++ m = v := by
  unfold app at h; split at h
  · exact ⟨‹_›, Option.some.inj h⟩
  · cases h
theorem mk_spec {α : Type} {n : Int} {z : α} {v : List α} (h : mk n z = some v) : 0 ≤ n ∧ n ≤ (LIM : Int) ∧ List.replicate n.toNat z = v := by
  unfold mk at h; split at h
  · rename_i hc; exact ⟨hc.1, hc.2, Option.some.inj h⟩
  · cases h
theorem sub_spec {α : Type} {l : List α} {lo hi : Int} {v : List α} (h : sub l lo hi = some v) : 0 ≤ lo ∧ lo ≤ hi ∧ hi ≤ l.length ∧ (l.take hi.toNat).drop lo.toNat = v := by
  unfold sub at h; split at h
  · rename_i hc; exact ⟨hc.1, hc.2.1, hc.2.2, Option.some.inj h⟩
  · cases h
theorem gd_t {α : Type} {c : Bool} {m : Option α} {z v : α} (h : c = true) (k : gd c m z = some v) : m = some v := by unfold gd at k; rwa [if_pos h] at k
theorem and_l {a b : Bool} (h : (a && b) = true) : a = true := by cases a <;> simp_all
theorem and_r {a b : Bool} (h : (a && b) = true) : b = true := by cases a <;> simp_all
theorem and_t {a b : Bool} (h : a = true) (k : b = true) : (a && b) = true := by rw [h, k]; rfl
theorem not_t {a : Bool} (h : a = false) : (!a) = true := by rw [h]; rfl
theorem not_f {a : Bool} (h : (!a) = true) : a = false := by cases a <;> simp_all
theorem bool_eq {a b : Bool} (h : a = b) : b = a := h.symm

end Go.Dl
