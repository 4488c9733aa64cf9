/- The data level, fifth text: new data, variables in memory, rows that are written. -/
import Derived.Test.YtbalmknhjokgaaaDlMem
set_option linter.unusedVariables false
namespace Go.Dl
open Go Go.RowKit

section
variable {P : Program} {x : Cx} {S : List (Nat × SV)} {O : List (Nat × Ob)} {d : Option Nat} {ty : TypeId} {pos : String} {aft : Array Edge} {g : Option (Nat × Bool)}

theorem Upd.alloc (w : World) (o : Obj) (E : Good) : Upd E w (w.alloc o) := ⟨rfl, rfl, rfl, by simp, fun k hk _ => Below.heap_alloc w o k hk⟩
theorem Upd.of_grown {w w' : World} {row : Option Nat} (h : w.grownBy w' row) : Upd (fun b => row = some b) w w' :=
  ⟨h.os, h.tape, h.output, h.size, fun k hk hn => h.block k hk (fun e => hn e.symm)⟩

theorem alloc_old {w : World} {o : Obj} {k : Nat} (h : k < w.heap.size) : (w.alloc o).heap[k]? = w.heap[k]? := Below.heap_alloc w o k h
theorem alloc_new {w : World} {o : Obj} : (w.alloc o).heap[w.heap.size]? = some o := heap_alloc_new w o

theorem cellsRd.at {w : World} {G : Good} {us : List Value} {its : List It} (h : cellsRd w G us its) {b off : Nat} {cur : Array Value} {t : TypeId} {fr : Nat × Nat} (hb : w.heap[b]? = some (.cells cur t fr)) (hc : ∀ j, j < us.length → cur[off + j]? = us[j]?) : cellsAt w G b off its := by
  intro j hj
  have hl := h.length
  refine ⟨us[j]'(by omega), ?_, h.get j hj (by omega)⟩
  rw [cell_of_row w b (off + j) cur t fr hb, hc j (by omega), List.getElem?_eq_getElem]

/-- a new block of data, and its address -/
theorem op_newPtr {o : Oper} {t : TypeId} {us : Act → List Value} {its : List It} (hrun : ∀ a w G V, Slots x.N a w G V S → (execOp a.eval o).run P w = .ok (.value (.pointer (some ⟨w.heap.size, 0, none⟩))) (w.alloc (.cells (us a).toArray t)) ∧ cellsRd w G (us a) its) : OpX P x S O o (.ptr its) O allp := by
  intro a w G V hs _ hS
  obtain ⟨hr, hc⟩ := hrun a w G V hS
  have hG : ∀ k, G k → (w.alloc (.cells (us a).toArray t)).heap[k]? = w.heap[k]? := fun k hk => alloc_old (hs.good k hk)
  refine Yields.value hr ⟨_, V, hs.allocGood _, fun _ h => .inl h, hG, fun _ _ => rfl, w.heap.size, 0, rfl, .inr rfl, ?_⟩
  refine (hc.mono hG (fun _ h => .inl h)).at alloc_new ?_
  intro j hj
  simp

theorem op_box {t : TypeId} {ex : Operand} {its : List It} (hx : CanI S ex its) : OpX P x S O ⟨d, .box t ex, ty, pos, aft, g⟩ (.ptr its) O allp :=
  op_newPtr (us := fun a => (a.eval ex).cells.toList) (t := t) fun a w G V hS => ⟨by simp [execOp, Instr.box, newVar, newRow], hx.eval hS⟩

/-- an array of one cell's data, laid over by parts -/
def bldL (P : Program) (t : TypeId) : Option (TypeId × List Value) :=
  match P.underlying t with
  | some (.slice e) => match P.info? e with
    | some ie => match ie.zero with
      | some z => if ie.size = z.cells.size ∧ 0 < ie.size then some (e, z.cells.toList) else none
      | none => none
    | none => none
  | _ => none

def repL {β : Type 1} (n : Nat) (l : List β) : List β := (List.replicate n l).flatten

theorem cellsRd_rep {w : World} {G : Good} {us : List Value} {its : List It} (h : cellsRd w G us its) : ∀ n, cellsRd w G (List.replicate n us).flatten (repL n its)
  | 0 => trivial
  | n + 1 => by
    simp only [repL, List.replicate_succ, List.flatten_cons]
    exact h.append (cellsRd_rep h n)

theorem zeros_rep (z : Array Value) (hz : 0 < z.size) (n : Nat) : ((Array.range (n * z.size)).map (z[· % z.size]!)).toList = (List.replicate n z.toList).flatten := by
  apply List.ext_getElem?
  intro i
  have hl : (List.replicate n z.toList).flatten.length = n * z.size := by simp
  by_cases hi : i < n * z.size
  · have h1 : ((Array.range (n * z.size)).map (z[· % z.size]!)).toList[i]? = some (z[i % z.size]!) := by simp [hi]
    rw [h1]
    have h2 : ∀ n i, i < n * z.size → (List.replicate n z.toList).flatten[i]? = z.toList[i % z.size]? := by
      intro n
      induction n with
      | zero => intro i hi; simp at hi
      | succ n ih =>
        intro i hi
        rw [List.replicate_succ, List.flatten_cons]
        by_cases h : i < z.size
        · rw [List.getElem?_append_left (by simpa using h), Nat.mod_eq_of_lt h]
        · rw [List.getElem?_append_right (by simp; omega)]
          simp only [Array.length_toList]
          rw [ih (i - z.size) (by rw [Nat.succ_mul] at hi; omega), ← Nat.mod_eq_sub_mod (by omega)]
    rw [h2 n i hi]
    have hm : i % z.size < z.size := Nat.mod_lt _ hz
    simp [hm]
  · rw [List.getElem?_eq_none (by simp; omega), List.getElem?_eq_none (by omega)]

theorem run_bldL {t : TypeId} {e : TypeId} {zs : List Value} (hb : bldL P t = some (e, zs)) {len : Nat} (hlen : 0 < len) (hsm : len * zs.length ≤ 16777216) {parts : Array (Nat × Value)} {cs : Array Value}
    (h : Instr.fill (fun i => some (i * zs.length, zs.length)) (List.replicate len zs).flatten.toArray parts.toList = some cs) (w : World) :
    (Instr.buildSlice t len parts).run P w = .ok (.slice (some ⟨w.heap.size, 0, none⟩) len len) (w.alloc (.cells cs e)) := by
  unfold bldL at hb
  cases hu : P.underlying t with
  | none => simp [hu] at hb
  | some dd =>
    cases dd <;> simp only [hu] at hb <;> try (cases hb; done)
    rename_i e'
    cases hi : P.info? e' with
    | none => simp [hi] at hb
    | some ie =>
      cases hz : ie.zero with
      | none => simp [hi, hz] at hb
      | some z =>
        simp only [hi, hz] at hb
        split at hb
        · rename_i hcond
          simp only [Option.some.injEq, Prod.mk.injEq] at hb
          obtain ⟨rfl, rfl⟩ := hb
          simp only [Array.length_toList, ← hcond.1] at h hsm
          have hp : 0 < len * ie.size := Nat.mul_pos hlen hcond.2
          refine run_buildSlice w t e' len parts cs ie z hu hi hz (by omega) (by omega) ?_
          rw [← h]
          congr 1
          apply Array.ext'
          rw [hcond.1, zeros_rep z.cells (by rw [← hcond.1]; exact hcond.2)]
        · cases hb

theorem flatMap_cell {α : Type} {c : α → List It} {n : Nat} (hn : ∀ y, (c y).length = n) : ∀ (l : List α) (i j : Nat), j < n → (l.flatMap c)[i * n + j]? = (l[i]?).bind fun y => (c y)[j]?
  | [], i, j, hj => by simp
  | y :: l, 0, j, hj => by
    simp only [List.flatMap_cons, Nat.zero_mul, Nat.zero_add, List.getElem?_cons_zero, Option.bind_some]
    rw [List.getElem?_append_left (by rw [hn]; exact hj)]
  | y :: l, i + 1, j, hj => by
    simp only [List.flatMap_cons, List.getElem?_cons_succ]
    rw [List.getElem?_append_right (by rw [hn, Nat.succ_mul]; omega), hn, ← flatMap_cell hn l i j hj]
    congr 1
    rw [Nat.succ_mul]; omega

theorem flatMap_len {α : Type} {c : α → List It} {n : Nat} (hn : ∀ y, (c y).length = n) : ∀ (l : List α), (l.flatMap c).length = l.length * n
  | [] => by simp
  | y :: l => by simp [flatMap_len hn l, hn, Nat.succ_mul, Nat.add_comm]

theorem flatMap_len' {α : Type} {c : α → List It} {n : Nat} : ∀ (l : List α), (∀ y ∈ l, (c y).length = n) → (l.flatMap c).length = l.length * n
  | [], _ => by simp
  | y :: l, h => by simp [flatMap_len' l (fun z hz => h z (by simp [hz])), h y (by simp), Nat.succ_mul, Nat.add_comm]

/-- cells of a block that read as the elements of a list, one behind the other -/
theorem rows_at {α : Type} {c : α → List It} {n : Nat} (hn : ∀ y, (c y).length = n) {w : World} {G : Good} {b : Nat} {cur : Array Value} {t : TypeId} {fr : Nat × Nat} {l : List α} {us : List Value} (hb : w.heap[b]? = some (.cells cur t fr)) (hc : cellsRd w G us (l.flatMap c)) (hcur : ∀ j, j < us.length → cur[j]? = us[j]?) :
    ∀ i (h : i < l.length), cellsAt w G b (0 + i * n) (c l[i]) := by
  intro i hi j hj
  rw [hn] at hj
  have hl := hc.length
  rw [flatMap_len hn] at hl
  have h1 : i * n + j < l.length * n := by
    have : (i + 1) * n ≤ l.length * n := Nat.mul_le_mul_right n hi
    rw [Nat.succ_mul] at this
    omega
  have h2 : (l.flatMap c)[i * n + j]? = (c l[i])[j]? := by rw [flatMap_cell hn l i j hj]; simp [hi]
  have h3 : i * n + j < (l.flatMap c).length := by rw [flatMap_len hn]; exact h1
  have h4 := hc.get (i * n + j) h3 (by omega)
  refine ⟨us[i * n + j]'(by omega), ?_, ?_⟩
  · rw [Nat.zero_add, cell_of_row w b (i * n + j) cur t fr hb, hcur _ (by omega), List.getElem?_eq_getElem]
  · have h5 : (l.flatMap c)[i * n + j] = (c l[i])[j]'(by rw [hn]; exact hj) := by
      have := h2
      rw [List.getElem?_eq_getElem h3, List.getElem?_eq_getElem (by rw [hn]; exact hj)] at this
      exact Option.some.inj this
    rw [← h5]; exact h4

/-- a slice literal, as data -/
theorem op_buildSlice {t e : TypeId} {len : Nat} {parts : Array (Nat × Operand)} {zs : List Value} (L0 : List It) {its : List (Nat × List It)} {α : Type} {n : Nat} {c : α → List It} (l : List α) (hb : bldL P t = some (e, zs)) (hz : ∀ w G, cellsRd w G zs L0)
    (hlen : 0 < len) (hsm : len * zs.length ≤ 16777216) (hp : Parts S parts.toList its (fun i => some (i * zs.length, zs.length)) (repL len L0).length) (hl : its.foldl (fun L p => setSeg L p.1 p.2) (repL len L0) = l.flatMap c) (hll : l.length = len) (hn : ∀ y, (c y).length = n) :
    OpX P x S O ⟨d, .buildSlice t len parts, ty, pos, aft, g⟩ (SL n c l) O allp := by
  intro a w G V hs _ hS
  obtain ⟨h1, h2⟩ := hp.spec hS
  obtain ⟨cs, h3, h4⟩ := fill_rd (w := w) (G := G) (fun i => some (i * zs.length, zs.length)) (parts.toList.map fun p => (p.1, a.eval p.2)) its (List.replicate len zs).flatten.toArray (repL len L0) (by simpa using cellsRd_rep (hz w G) len) h1 h2
  have hr := run_bldL (P := P) hb hlen hsm (parts := parts.map fun p => (p.1, a.eval p.2)) (cs := cs) (by simpa [Array.toList_map] using h3) w
  have hG : ∀ k, G k → (w.alloc (.cells cs e)).heap[k]? = w.heap[k]? := fun k hk => alloc_old (hs.good k hk)
  refine Yields.value (v := .slice (some ⟨w.heap.size, 0, none⟩) len len) (w' := w.alloc (.cells cs e)) ?_ ⟨_, V, hs.allocGood _, fun _ h => .inl h, hG, fun _ _ => rfl, ?_⟩
  · simp only [execOp, Sem.run_bind]
    rw [show (parts.map fun (i, x) => (i, a.eval x)) = (parts.map fun p => (p.1, a.eval p.2)) from rfl, hr]
    rfl
  · rw [hl] at h4
    refine ⟨some ⟨w.heap.size, 0, none⟩, len, by show _ = Value.slice _ l.length _; rw [hll], Nat.le_of_eq hll, fun _ => ⟨w.heap.size, 0, rfl, .inr rfl, ?_⟩⟩
    exact rows_at hn alloc_new (h4.mono hG (fun _ h => .inl h)) (fun j hj => by simp)

/-- a slice literal, as a row of the call's own -/
theorem op_buildRow {t e : TypeId} {len : Nat} {parts : Array (Nat × Operand)} {zs : List Value} (id : Nat) (L0 : List It) {its : List (Nat × List It)} {α : Type} {n : Nat} {c : α → List It} (l : List α) (hb : bldL P t = some (e, zs)) (hz : ∀ w G, cellsRd w G zs L0)
    (hlen : 0 < len) (hm : len ≤ 16777216) (hsm : len * zs.length ≤ 16777216) (hp : Parts S parts.toList its (fun i => some (i * zs.length, zs.length)) (repL len L0).length) (hl : its.foldl (fun L p => setSeg L p.1 p.2) (repL len L0) = l.flatMap c) (hll : l.length = len) (hn : ∀ y, (c y).length = n) (hfr : freeO id O = true) :
    OpX P x S O ⟨d, .buildSlice t len parts, ty, pos, aft, g⟩ (.ref id) ((id, .row e n c l) :: O) (butp id) := by
  intro a w G V hs _ hS
  obtain ⟨h1, h2⟩ := hp.spec hS
  obtain ⟨cs, h3, h4⟩ := fill_rd (w := w) (G := G) (fun i => some (i * zs.length, zs.length)) (parts.toList.map fun p => (p.1, a.eval p.2)) its (List.replicate len zs).flatten.toArray (repL len L0) (by simpa using cellsRd_rep (hz w G) len) h1 h2
  have hr := run_bldL (P := P) hb hlen hsm (parts := parts.map fun p => (p.1, a.eval p.2)) (cs := cs) (by simpa [Array.toList_map] using h3) w
  have hG : ∀ k, G k → (w.alloc (.cells cs e)).heap[k]? = w.heap[k]? := fun k hk => alloc_old (hs.good k hk)
  rw [hl] at h4
  have hsz : cs.size = len * n := by have := h4.length; rw [flatMap_len hn, hll] at this; simpa using this
  refine Yields.value (v := .slice (some ⟨w.heap.size, 0, none⟩) len len) (w' := w.alloc (.cells cs e)) ?_ ⟨G, setV V id (.slice (some ⟨w.heap.size, 0, none⟩) len len), ?_, fun _ h => h, hG, setV_but, setV_same.symm⟩
  · simp only [execOp, Sem.run_bind]
    rw [show (parts.map fun (i, x) => (i, a.eval x)) = (parts.map fun p => (p.1, a.eval p.2)) from rfl, hr]
    rfl
  · refine hs.turn (F := fun _ => False) (Upd.alloc _ _ _) (fun _ f => f.elim) (fun e he => ⟨he, fun _ _ f => f⟩) hfr ?_ ?_
    · refine ⟨cs.toList, ?_, h4.mono hG (fun _ h => h), fun y _ => hn y⟩
      rw [hll]
      exact .inl (World.ownsRow_lit w cs len (Nat.zero_le _) (by unfold maxLen; omega) hsz)
    · intro b hb'
      obtain ⟨_, y, hy, rfl⟩ := blkR_at hb'
      cases hy
      simp

/-- a variable in memory -/
theorem op_alloc {t : TypeId} {zs : List Value} (id : Nat) (L0 : List It) (hz0 : ((P.info? t).bind (·.zero)).map (fun z => z.cells.toList) = some zs) (hz : ∀ w G, cellsRd w G zs L0) (hfr : freeO id O = true) :
    OpX P x S O ⟨d, .alloc t, ty, pos, aft, g⟩ (.ref id) ((id, .var t (L0.map SV.c)) :: O) (butp id) := by
  intro a w G V hs _ hS
  cases hi : P.info? t with
  | none => simp [hi] at hz0
  | some it =>
    cases hzz : it.zero with
    | none => simp [hi, hzz] at hz0
    | some z =>
      simp only [hi, hzz, Option.bind_some, Option.map_some, Option.some.injEq] at hz0
      subst hz0
      have hG : ∀ k, G k → (w.alloc (.cells z.cells t)).heap[k]? = w.heap[k]? := fun k hk => alloc_old (hs.good k hk)
      refine Yields.value (v := .pointer (some ⟨w.heap.size, 0, none⟩)) (w' := w.alloc (.cells z.cells t)) (by simp [execOp, Instr.alloc, zeroValue, typeInfo, hi, hzz, newVar, newRow]) ⟨G, setV V id (.pointer (some ⟨w.heap.size, 0, none⟩)), ?_, fun _ h => h, hG, setV_but, setV_same.symm⟩
      refine hs.turn (F := fun _ => False) (Upd.alloc _ _ _) (fun _ f => f.elim) (fun e he => ⟨he, fun _ _ f => f⟩) hfr ?_ ?_
      · refine ⟨w.heap.size, z.cells, rfl, alloc_new, ?_⟩
        have h1 := (hz w G).mono (w' := w.alloc (.cells z.cells t)) hG (fun _ h => h)
        generalize z.cells.toList = us at h1
        generalize hV' : setV V id (.pointer (some ⟨w.heap.size, 0, none⟩)) = V'
        clear hV' hz
        induction L0 generalizing us with
        | nil => cases us <;> first | rfl | exact h1.elim
        | cons i L0 ih =>
          cases us with
          | nil => exact h1.elim
          | cons u us => exact ⟨u, us, rfl, h1.1, i.r.one h1.1, ih us h1.2⟩
      · intro b hb'
        have hb' : blk (.pointer (some ⟨w.heap.size, 0, none⟩)) = some b := hb'
        simp only [blk, Option.some.injEq] at hb'
        subst hb'
        simp

theorem cellsSV_its {w : World} {G : Good} {V : Nat → Value} : ∀ {its : List It} {us : List Value}, cellsRd w G us its → cellsSV w G V (its.map SV.c) us
  | [], [], _ => rfl
  | i :: its, u :: us, h => ⟨u, us, rfl, h.1, i.r.one h.1, cellsSV_its h.2⟩
  | [], _ :: _, h => h.elim
  | _ :: _, [], h => h.elim
theorem cellsSV_rd {w : World} {G : Good} {V : Nat → Value} : ∀ {its : List It} {us : List Value}, cellsSV w G V (its.map SV.c) us → cellsRd w G us its
  | [], us, h => by have : us = [] := h; subst this; trivial
  | i :: its, us, h => by
    obtain ⟨u, r, rfl, h1, _, h2⟩ := h
    exact ⟨h1, cellsSV_rd h2⟩
theorem cellsSV_len {w : World} {G : Good} {V : Nat → Value} : ∀ {l : List SV} {us : List Value}, cellsSV w G V l us → us.length = l.length
  | [], us, h => by have : us = [] := h; subst this; rfl
  | s :: l, us, h => by
    obtain ⟨u, r, rfl, _, _, h2⟩ := h
    simp [cellsSV_len h2]
theorem cellsSV_get {w : World} {G : Good} {V : Nat → Value} : ∀ {l : List SV} {us : List Value} {j : Nat} {s : SV}, cellsSV w G V l us → l[j]? = some s → ∃ u, us[j]? = some u ∧ s.holds w G V u ∧ u.oneCell' = true
  | [], us, j, s, h, hj => by simp at hj
  | t :: l, us, 0, s, h, hj => by
    obtain ⟨u, r, rfl, h1, h2, _⟩ := h
    simp at hj; subst hj
    exact ⟨u, rfl, h1, h2⟩
  | t :: l, us, j + 1, s, h, hj => by
    obtain ⟨u, r, rfl, _, _, h3⟩ := h
    obtain ⟨v, h4, h5⟩ := cellsSV_get h3 (by simpa using hj)
    exact ⟨v, by simpa using h4, h5⟩
theorem cellsSV_set {w : World} {G : Good} {V : Nat → Value} : ∀ {l : List SV} {us : List Value} {j : Nat} {s : SV} {u : Value}, cellsSV w G V l us → s.holds w G V u → u.oneCell' = true → cellsSV w G V (l.set j s) (us.set j u)
  | [], us, j, s, u, h, _, _ => by have : us = [] := h; subst this; rfl
  | t :: l, us, 0, s, u, h, h1, h2 => by
    obtain ⟨v, r, rfl, _, _, h3⟩ := h
    exact ⟨u, r, rfl, h1, h2, h3⟩
  | t :: l, us, j + 1, s, u, h, h1, h2 => by
    obtain ⟨v, r, rfl, h4, h5, h3⟩ := h
    exact ⟨v, r.set j u, rfl, h4, h5, cellsSV_set h3 h1 h2⟩

/-- one cell of a variable read -/
theorem op_loadV {t : TypeId} {ex : Operand} {k off : Nat} {t' : TypeId} {cs : List SV} {sv : SV} (hx : Can S ex (.pt k off)) (i : Nat) (hk : O[i]? = some (k, .var t' cs)) (hc : cs[off]? = some sv) (ha : aggB P t = some false) :
    OpX P x S O ⟨d, .load t ex, ty, pos, aft, g⟩ sv O allp := .pure fun a w G V hs hS => by
  obtain ⟨b, hb, hv⟩ := hx.eval hS
  obtain ⟨b', cur, hv', hh, hcs⟩ := hs.obs _ (List.mem_of_getElem? hk)
  simp only at hv'
  rw [hv'] at hb
  simp only [blk, Option.some.injEq] at hb
  subst hb
  obtain ⟨u, h1, h2, _⟩ := cellsSV_get hcs hc
  have h3 : w.cell? ⟨b', off, none⟩ = some u := by rw [cell_of_row w b' off cur t' (0, 0) hh]; simpa using h1
  exact ⟨u, by simp [execOp, hv, Instr.loadAt, Instr.sureAddr, loadVar, run_aggB ha, h3], h2⟩

/-- a whole variable read -/
theorem op_loadVA {t : TypeId} {ex : Operand} {k : Nat} {t' : TypeId} {its : List It} (hx : Can S ex (.ref k)) (i : Nat) (hk : O[i]? = some (k, .var t' (its.map SV.c))) (ha : aggB P t = some true) (hn : sizeT P t = some its.length) :
    OpX P x S O ⟨d, .load t ex, ty, pos, aft, g⟩ (.agg its) O allp := .pure fun a w G V hs hS => by
  have hv : a.eval ex = V k := hx.eval hS
  obtain ⟨b, cur, hv', hh, hcs⟩ := hs.obs _ (List.mem_of_getElem? hk)
  simp only at hv'
  have hcr := cellsSV_rd hcs
  have hlen : cur.toList.length = its.length := hcr.length
  refine ⟨.agg cur, ?_, cur.toList, by simp, hcr⟩
  have := run_loadAgg (P := P) ha hn (w := w) (b := b) (off := 0) (us := cur.toList) hlen (fun j hj => by
    rw [Nat.zero_add, cell_of_row w b j cur t' (0, 0) hh]; simp)
  simp only [Array.toArray_toList] at this
  simp [execOp, hv, hv', Instr.loadAt, Instr.sureAddr, this]

theorem op_fieldVar {s : TypeId} {ex : Operand} {f o k : Nat} {t' : TypeId} {cs : List SV} (hx : Can S ex (.ref k)) (i : Nat) (hk : O[i]? = some (k, .var t' cs)) (ho : offT P s f = some o) : OpX P x S O ⟨d, .fieldAddr s ex f, ty, pos, aft, g⟩ (.pt k o) O allp := .pure fun a w G V hs hS => by
  have hv : a.eval ex = V k := hx.eval hS
  obtain ⟨b, cur, hv', hh, hcs⟩ := hs.obs _ (List.mem_of_getElem? hk)
  simp only at hv'
  exact ⟨.pointer (some ⟨b, 0 + o, none⟩), by simp [execOp, hv, hv', run_fieldAt ho], b, by rw [hv']; rfl, by simp⟩

theorem op_fieldPt {s : TypeId} {ex : Operand} {f o k off : Nat} (hx : Can S ex (.pt k off)) (ho : offT P s f = some o) : OpX P x S O ⟨d, .fieldAddr s ex f, ty, pos, aft, g⟩ (.pt k (off + o)) O allp := .pure fun a w G V hs hS => by
  obtain ⟨b, hb, hv⟩ := hx.eval hS
  exact ⟨.pointer (some ⟨b, off + o, none⟩), by simp [execOp, hv, run_fieldAt ho], b, hb, rfl⟩

theorem op_nilCheckVar {ex : Operand} {k : Nat} {t' : TypeId} {cs : List SV} (hx : Can S ex (.ref k)) (i : Nat) (hk : O[i]? = some (k, .var t' cs)) : OpX P x S O ⟨d, .nilCheck ex, ty, pos, aft, g⟩ (.ref k) O allp := .pure fun a w G V hs hS => by
  have hv : a.eval ex = V k := hx.eval hS
  obtain ⟨b, cur, hv', hh, hcs⟩ := hs.obs _ (List.mem_of_getElem? hk)
  simp only at hv'
  exact ⟨V k, by simp only [execOp, hv, hv']; rfl, rfl⟩

theorem run_storeCell {t t' : TypeId} (hn : sizeT P t = some 1) {w : World} {b off : Nat} {cur : Array Value} {v : Value} (hh : w.heap[b]? = some (.cells cur t' (0, 0))) (ho : off < cur.size) (h1 : v.oneCell' = true) :
    (storeVar t ⟨b, off, none⟩ v).run P w = .ok () (w.setRow b (cur.setIfInBounds off v)) := by
  have hc : v.cells = #[v] := one_cells h1
  have h2 := run_storeCells_at P b off t' [v] 0 cur w hh (by simp; omega) (by simpa using h1)
  have h3 : (cur.toList.take (off + 0) ++ [v] ++ cur.toList.drop (off + 0 + [v].length)).toArray = cur.setIfInBounds off v := by
    apply Array.ext'
    rw [Array.toList_setIfInBounds]
    simp only [Nat.add_zero, List.length_cons, List.length_nil]
    rw [List.set_eq_take_append_cons_drop, if_pos (by simpa using ho)]
    simp
  rw [h3] at h2
  simp only [storeVar, Sem.run_bind, run_sizeT hn, Result.andThen_ok, hc]
  simpa using h2

/-- one cell of a variable written -/
theorem op_storeV {t : TypeId} {ep ev : Operand} {k off : Nat} {t' : TypeId} {cs : List SV} {sv : SV} (hp : Can S ep (.pt k off)) (i : Nat) (hk : O[i]? = some (k, .var t' cs)) (ho : off < cs.length) (hv : Can S ev sv) (h1 : ∀ w G V u, sv.holds w G V u → (∀ e ∈ O, e.2.holds w G V (V e.1)) → u.oneCell' = true) (hn : sizeT P t = some 1) :
    OpX P x S O ⟨d, .store t ep ev, ty, pos, aft, g⟩ (.raw undef) ((k, .var t' (cs.set off sv)) :: del k O) allp := by
  intro a w G V hs _ hS
  obtain ⟨b, hb, hvp⟩ := hp.eval hS
  have hm := List.mem_of_getElem? hk
  obtain ⟨b', cur, hv', hh, hcs⟩ := hs.obs _ hm
  simp only at hv'
  rw [hv'] at hb
  simp only [blk, Option.some.injEq] at hb
  subst hb
  have hsv := hv.eval hS
  have hone := h1 w G V _ hsv hs.obs
  have hlen : off < cur.size := by have := cellsSV_len hcs; simp at this; omega
  have hrun := run_storeCell (P := P) hn hh hlen hone
  have hup : Upd (fun c => blk (V k) = some c) w (w.setRow b' (cur.setIfInBounds off (a.eval ev))) := by
    refine ⟨rfl, rfl, rfl, by simp, fun c _ hc => setRow_other w b' c _ (fun e => hc ?_)⟩
    rw [hv', e]; rfl
  have hG : ∀ c, G c → (w.setRow b' (cur.setIfInBounds off (a.eval ev))).heap[c]? = w.heap[c]? := fun c hc => hup.block c (hs.good c hc) (fun e => (hs.own _ hm c e).2.1 hc)
  refine Yields.skip (w' := w.setRow b' (cur.setIfInBounds off (a.eval ev))) (by simp [execOp, hvp, Instr.storeAt, Instr.sureAddr, hrun]) ⟨G, V, ?_, fun _ h => h, hG, fun _ _ => rfl, rfl⟩
  refine hs.turnIn hm hup ⟨b', _, hv', setRow_heap w b' cur _ t' (0, 0) hh, ?_⟩
  have h2 := cellsSV_set (j := off) (cellsSV.mono (p := allp) hG (fun _ h => h) (fun _ _ => rfl) cs _ (SV.okL_all _) hcs) (SV.holds_mono (p := allp) (V' := V) hG (fun _ h => h) (fun _ _ => rfl) sv _ (SV.ok_all _) hsv) hone
  simpa [Array.toList_setIfInBounds] using h2

/-- a whole variable written -/
theorem op_storeVA {t : TypeId} {ep ev : Operand} {k : Nat} {t' : TypeId} {cs : List SV} {its : List It} (hp : Can S ep (.ref k)) (i : Nat) (hk : O[i]? = some (k, .var t' cs)) (hv : CanI S ev its) (hl : its.length = cs.length) (hn : sizeT P t = some its.length) :
    OpX P x S O ⟨d, .store t ep ev, ty, pos, aft, g⟩ (.raw undef) ((k, .var t' (its.map SV.c)) :: del k O) allp := by
  intro a w G V hs _ hS
  have hvp : a.eval ep = V k := hp.eval hS
  have hm := List.mem_of_getElem? hk
  obtain ⟨b, cur, hv', hh, hcs⟩ := hs.obs _ hm
  simp only at hv'
  have hrd := hv.eval hS
  have hsz : (a.eval ev).cells.size = its.length := by have := hrd.length; simpa using this
  have hcur : cur.size = its.length := by have := cellsSV_len hcs; simp at this; omega
  have h2 := run_storeCells_at P b 0 t' (a.eval ev).cells.toList 0 cur w hh (by simp; omega) hrd.one
  have h3 : (cur.toList.take (0 + 0) ++ (a.eval ev).cells.toList ++ cur.toList.drop (0 + 0 + (a.eval ev).cells.toList.length)).toArray = (a.eval ev).cells := by
    apply Array.ext'
    simp [hsz, ← hcur]
  rw [h3] at h2
  have hrun : (storeVar t ⟨b, 0, none⟩ (a.eval ev)).run P w = .ok () (w.setRow b (a.eval ev).cells) := by
    simp only [storeVar, Sem.run_bind, run_sizeT hn, Result.andThen_ok, hsz]
    simpa using h2
  have hup : Upd (fun c => blk (V k) = some c) w (w.setRow b (a.eval ev).cells) := by
    refine ⟨rfl, rfl, rfl, by simp, fun c _ hc => setRow_other w b c _ (fun e => hc ?_)⟩
    rw [hv', e]; rfl
  have hG : ∀ c, G c → (w.setRow b (a.eval ev).cells).heap[c]? = w.heap[c]? := fun c hc => hup.block c (hs.good c hc) (fun e => (hs.own _ hm c e).2.1 hc)
  refine Yields.skip (w' := w.setRow b (a.eval ev).cells) (by simp [execOp, hvp, hv', Instr.storeAt, Instr.sureAddr, hrun]) ⟨G, V, ?_, fun _ h => h, hG, fun _ _ => rfl, rfl⟩
  exact hs.turnIn hm hup ⟨b, _, hv', setRow_heap w b cur _ t' (0, 0) hh, cellsSV_its (hrd.mono hG (fun _ h => h))⟩

end
end Go.Dl
