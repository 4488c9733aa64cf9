/- The data level: arrays of the call's own; whole elements written; slices without room. -/
import Derived.Test.YtbalmknhjokgaaaDlEq
set_option linter.unusedVariables false
namespace Go.Dl
open Go Go.RowKit

/-- An array in memory. -/
def ArrR (t : TypeId) (n len : Nat) {α : Type} (c : α → List It) : Deep (List α) where
  holds w G v l _ := ∃ b cur, v = .pointer (some ⟨b, 0, none⟩) ∧ w.heap[b]? = some (.cells cur t (0, 0)) ∧ cellsRd w G cur.toList (l.flatMap c) ∧ l.length = len ∧ ∀ x ∈ l, (c x).length = n
  foot w v := fun b => blk v = some b
  mono h1 h2 hb h := by
    obtain ⟨b, cur, hv, hh, hc, hl, hn⟩ := h
    exact ⟨b, cur, hv, by rw [hb b (by rw [hv]; rfl)]; exact hh, hc.mono h1 h2, hl, hn⟩
  keep _ _ _ h := h
abbrev Arr (t : TypeId) (n len : Nat) {α : Type} (c : α → List It) (l : List α) : Ob := .deep (ArrR t n len c) l []

section
variable {P : Program} {x : Cx} {S : List (Nat × SV)} {O : List (Nat × Ob)} {d : Option Nat} {ty : TypeId} {pos : String} {aft : Array Edge} {g : Option (Nat × Bool)}

theorem op_allocArr {t n len : Nat} {zs : List Value} {α : Type} {c : α → List It} (id : Nat) (l0 : List α) (hz0 : ((P.info? t).bind (·.zero)).map (fun z => z.cells.toList) = some zs) (hz : ∀ w G, cellsRd w G zs (l0.flatMap c)) (hl : l0.length = len) (hn : ∀ y, (c y).length = n) (hfr : freeO id O = true) :
    OpX P x S O ⟨d, .alloc t, ty, pos, aft, g⟩ (.ref id) ((id, Arr t n len c l0) :: O) (butp id) := by
  intro a w G V hs _ hS
  cases hi : P.info? t with
  | none => simp [hi] at hz0
  | some it =>
    cases hzz : it.zero with
    | none => simp [hi, hzz] at hz0
    | some z =>
      simp only [hi, hzz, Option.bind_some, Option.map_some, Option.some.injEq] at hz0
      subst hz0
      have hG : ∀ k, G k → (w.alloc (.cells z.cells t)).heap[k]? = w.heap[k]? := fun k hk => alloc_old (hs.good k hk)
      refine Yields.value (v := .pointer (some ⟨w.heap.size, 0, none⟩)) (w' := w.alloc (.cells z.cells t)) (by simp [execOp, Instr.alloc, zeroValue, typeInfo, hi, hzz, newVar, newRow]) ⟨G, setV V id (.pointer (some ⟨w.heap.size, 0, none⟩)), ?_, fun _ h => h, hG, setV_but, setV_same.symm⟩
      refine hs.turn (F := fun _ => False) (Upd.alloc _ _ _) (fun _ f => f.elim) (fun e he => ⟨he, fun _ _ f => f⟩) hfr ?_ ?_
      · exact ⟨w.heap.size, z.cells, rfl, alloc_new, (hz w G).mono hG (fun _ h => h), hl, fun y _ => hn y⟩
      · intro b hb'
        have hb' : blk (.pointer (some ⟨w.heap.size, 0, none⟩)) = some b := hb'
        simp only [blk, Option.some.injEq] at hb'
        subst hb'
        simp

theorem arr_cell {w : World} {G : Good} {V : Nat → Value} {t' n len : Nat} {α : Type} {c : α → List It} {l : List α} {v : Value} (h : (Arr t' n len c l).holds w G V v) {i f : Nat} {y : α} {it : It} (hy : l[i]? = some y) (hf : (c y)[f]? = some it) :
    ∃ b cur u, v = .pointer (some ⟨b, 0, none⟩) ∧ w.heap[b]? = some (.cells cur t' (0, 0)) ∧ w.cell? ⟨b, i * n + f, none⟩ = some u ∧ it.rd w G u ∧ i * n + f < cur.size := by
  obtain ⟨b, cur, hv, hh, hc, hl, hn⟩ := h
  obtain ⟨hi, hyy⟩ := List.getElem?_eq_some_iff.1 hy
  obtain ⟨hfl, hff⟩ := List.getElem?_eq_some_iff.1 hf
  have hcn := hn y (hyy ▸ List.getElem_mem hi)
  have hlen := hc.length
  have hcell : (l.flatMap c)[i * n + f]? = some it := by
    have key : ∀ (l : List α) (i : Nat), (∀ y ∈ l, (c y).length = n) → l[i]? = some y → (l.flatMap c)[i * n + f]? = some it := by
      intro l
      induction l with
      | nil => intro i _ h; simp at h
      | cons z l ih =>
        intro i hn hy
        cases i with
        | zero =>
          simp at hy; subst hy
          simp only [List.flatMap_cons, Nat.zero_mul, Nat.zero_add]
          rw [List.getElem?_append_left hfl, hf]
        | succ i =>
          simp only [List.flatMap_cons]
          rw [List.getElem?_append_right (by rw [hn z (by simp), Nat.succ_mul]; omega), hn z (by simp), ← ih i (fun y hy => hn y (by simp [hy])) (by simpa using hy)]
          congr 1
          rw [Nat.succ_mul]; omega
    exact key l i hn hy
  obtain ⟨hcl, hcg⟩ := List.getElem?_eq_some_iff.1 hcell
  have hr := hc.get (i * n + f) hcl (by omega)
  have hsz : i * n + f < cur.size := by have := hlen; simp only [Array.length_toList] at this; omega
  refine ⟨b, cur, cur.toList[i * n + f]'(by simpa using hsz), hv, hh, ?_, by rw [← hcg]; exact hr, hsz⟩
  rw [cell_of_row w b _ cur t' (0, 0) hh]
  simp

theorem op_indexArr {t e n len : Nat} {ex ei : Operand} {k t' : Nat} {α : Type} {c : α → List It} {l : List α} {j : Int} {y : α} (hy : ix l j = some y) (hx : Can S ex (.ref k)) (i : Nat) (hk : O[i]? = some (k, Arr t' n len c l)) (hi : Can S ei (I j)) (hu : P.underlying t = some (.array len e)) (hs : sizeT P e = some n) :
    OpX P x S O ⟨d, .indexAddr t ex ei, ty, pos, aft, g⟩ (.pt k (j.toNat * n)) O allp := .pure fun a w G V hsp hS => by
  obtain ⟨h0, hj⟩ := ix_spec hy
  have hjl := (List.getElem?_eq_some_iff.1 hj).1
  have hv : a.eval ex = V k := hx.eval hS
  have h1 : a.eval ei = .int .i64 j := hi.eval hS
  obtain ⟨b, cur, hv2, hh, hc, hl, hn⟩ := hsp.obs _ (List.mem_of_getElem? hk)
  simp only at hv2
  refine ⟨.pointer (some ⟨b, 0 + j.toNat * n, none⟩), ?_, b, by rw [hv2]; rfl, by simp⟩
  have hlt : j < len := by omega
  simp [execOp, hv, hv2, h1, Instr.indexAt, Instr.sureAddr, asIntOf, run_underlying hu, run_sizeT hs, h0, hlt, addr_add]
theorem op_loadArr {t : TypeId} {ex : Operand} {k off t' n len : Nat} {α : Type} {c : α → List It} {l : List α} (hx : Can S ex (.pt k off)) (i : Nat) (hk : O[i]? = some (k, Arr t' n len c l)) (j f : Nat) {y : α} {it : It} (hoff : off = j * n + f) (hy : l[j]? = some y) (hf : (c y)[f]? = some it) (ha : aggB P t = some false) :
    OpX P x S O ⟨d, .load t ex, ty, pos, aft, g⟩ (.c it) O allp := .pure fun a w G V hs hS => by
  obtain ⟨b, hb, hv⟩ := hx.eval hS
  obtain ⟨b', cur, u, h1, h2, h3, h4, _⟩ := arr_cell (V := V) (hs.obs _ (List.mem_of_getElem? hk)) hy hf
  simp only at h1
  rw [h1] at hb
  simp only [blk, Option.some.injEq] at hb
  subst hb
  subst hoff
  exact ⟨u, by simp [execOp, hv, Instr.loadAt, Instr.sureAddr, loadVar, run_aggB ha, h3], h4⟩
theorem op_loadArrA {t : TypeId} {ex : Operand} {k off t' n len : Nat} {α : Type} {c : α → List It} {l : List α} (hx : Can S ex (.pt k off)) (i : Nat) (hk : O[i]? = some (k, Arr t' n len c l)) (j : Nat) {y : α} (hoff : off = j * n) (hy : l[j]? = some y) (ha : aggB P t = some true) (hn : sizeT P t = some n) (hcn : (c y).length = n) :
    OpX P x S O ⟨d, .load t ex, ty, pos, aft, g⟩ (.agg (c y)) O allp := .pure fun a w G V hs hS => by
  obtain ⟨b, hb, hv⟩ := hx.eval hS
  have hob := hs.obs _ (List.mem_of_getElem? hk)
  have hca : cellsAt w G b off (c y) := by
    intro f hf
    obtain ⟨b', cur, u, h1, h2, h3, h4, _⟩ := arr_cell (V := V) hob hy (List.getElem?_eq_getElem hf)
    simp only at h1
    rw [h1] at hb
    simp only [blk, Option.some.injEq] at hb
    subst hb
    subst hoff
    exact ⟨u, h3, h4⟩
  obtain ⟨us, h3, h4, h5⟩ := hca.list
  rw [← hcn] at hn
  exact ⟨.agg us.toArray, by simp [execOp, hv, Instr.loadAt, Instr.sureAddr, run_loadAgg ha hn h3 h4], us, rfl, h5⟩
theorem op_storeArr {t : TypeId} {ep ev : Operand} {k off t' n len : Nat} {α : Type} {c : α → List It} {l : List α} {it : It} (hp : Can S ep (.pt k off)) (i : Nat) (hk : O[i]? = some (k, Arr t' n len c l)) (j f : Nat) {y : α} (y' : α) (hoff : off = j * n + f) (hy : l[j]? = some y) (hf : f < (c y).length) (hy' : c y' = (c y).set f it) (hv : Can S ev (.c it)) (hn : sizeT P t = some 1) :
    OpX P x S O ⟨d, .store t ep ev, ty, pos, aft, g⟩ (.raw undef) ((k, Arr t' n len c (l.set j y')) :: del k O) allp := by
  intro a w G V hs _ hS
  obtain ⟨b, hb, hvp⟩ := hp.eval hS
  have hm := List.mem_of_getElem? hk
  have hob := hs.obs _ hm
  obtain ⟨b', cur, u, h1, h2, h3, h4, hlt⟩ := arr_cell (V := V) hob hy (List.getElem?_eq_getElem hf)
  simp only at h1 hob
  rw [h1] at hb
  simp only [blk, Option.some.injEq] at hb
  subst hb
  subst hoff
  have hsv : it.rd w G (a.eval ev) := hv.eval hS
  have hone := it.r.one hsv
  have hrun := run_storeCell (P := P) hn h2 hlt hone
  have hup : Upd (fun c => blk (V k) = some c) w (w.setRow b' (cur.setIfInBounds (j * n + f) (a.eval ev))) := by
    refine ⟨rfl, rfl, rfl, by simp, fun c _ hc => setRow_other w b' c _ (fun e => hc ?_)⟩
    rw [h1, e]; rfl
  have hG : ∀ c, G c → (w.setRow b' (cur.setIfInBounds (j * n + f) (a.eval ev))).heap[c]? = w.heap[c]? := fun c hc => hup.block c (hs.good c hc) (fun e => (hs.own _ hm c e).2.1 hc)
  refine Yields.skip (w' := w.setRow b' (cur.setIfInBounds (j * n + f) (a.eval ev))) (by simp [execOp, hvp, Instr.storeAt, Instr.sureAddr, hrun]) ⟨G, V, ?_, fun _ h => h, hG, fun _ _ => rfl, rfl⟩
  refine hs.turnIn hm hup ?_
  obtain ⟨b2, cur2, hv2, hh2, hc, hl, hnn⟩ := hob
  rw [h1] at hv2
  simp only [Value.pointer.injEq, Option.some.injEq, Addr.mk.injEq, and_true] at hv2
  subst hv2
  rw [h2] at hh2
  simp only [Option.some.injEq, Obj.cells.injEq, and_true] at hh2
  subst hh2
  have hyl := (List.getElem?_eq_some_iff.1 hy).1
  have hyn := hnn y ((List.getElem?_eq_some_iff.1 hy).2 ▸ List.getElem_mem hyl)
  refine ⟨b', _, h1, setRow_heap w b' cur _ t' (0, 0) h2, ?_, by simpa using hl, ?_⟩
  · rw [set_flat l j f y y' it hnn hy hy' (by omega), Array.toList_setIfInBounds]
    exact (hc.mono hG (fun _ h => h)).set (It.mono hG (fun _ h => h) hsv)
  · intro z hz
    rcases List.mem_or_eq_of_mem_set hz with h | h
    · exact hnn z h
    · subst h; rw [hy', List.length_set]; exact hyn

theorem take_seg {β : Type} (cur mid : List β) (o m tot : Nat) (hm : mid.length = m) (h : o + m ≤ tot) (ht : tot ≤ cur.length) : (cur.take o ++ mid ++ cur.drop (o + m)).take tot = (cur.take tot).take o ++ (mid ++ (cur.take tot).drop (o + m)) := by
  have e1 : (cur.take o).length = o := by simp; omega
  rw [List.append_assoc, List.take_append, List.take_append, e1, hm, List.take_take, List.take_take, List.drop_take]
  rw [show min tot o = o by omega, show min o tot = o by omega, List.take_of_length_le (show mid.length ≤ tot - o by omega), show tot - o - m = tot - (o + m) by omega]

/-- a whole element of a row written -/
theorem set_flatA {α : Type} {c : α → List It} {n : Nat} : ∀ (l : List α) (i : Nat) (y y' : α), (∀ z ∈ l, (c z).length = n) → l[i]? = some y → (c y').length = n → (l.set i y').flatMap c = (l.flatMap c).take (i * n) ++ (c y' ++ (l.flatMap c).drop (i * n + n))
  | [], i, y, y', _, h, _ => by simp at h
  | z :: l, 0, y, y', hn, h, hc => by
    have hz := hn z (by simp)
    simp only [List.set_cons_zero, List.flatMap_cons, Nat.zero_mul, List.take_zero, List.nil_append, Nat.zero_add]
    rw [List.drop_append_of_le_length (by omega), List.drop_eq_nil_of_le (by omega), List.nil_append]
  | z :: l, i + 1, y, y', hn, h, hc => by
    have hz := hn z (by simp)
    simp only [List.set_cons_succ, List.flatMap_cons]
    rw [set_flatA l i y y' (fun z hz => hn z (by simp [hz])) (by simpa using h) hc, show (i + 1) * n = (c z).length + i * n by rw [hz, Nat.succ_mul]; omega, List.take_length_add_append, show (c z).length + i * n + n = (c z).length + (i * n + n) by omega, List.drop_length_add_append]
    simp
theorem cellsRd.seg {w : World} {G : Good} {us vs : List Value} {is js : List It} {o n : Nat} (h : cellsRd w G us is) (k : cellsRd w G vs js) : cellsRd w G (us.take o ++ (vs ++ us.drop n)) (is.take o ++ (js ++ is.drop n)) := (h.take o).append (k.append (h.drop n))
theorem op_storeRA {t : TypeId} {ep ev : Operand} {k off : Nat} {t' : TypeId} {n : Nat} {α : Type} {c : α → List It} {l : List α} (hp : Can S ep (.pt k off)) (i : Nat) (hk : O[i]? = some (k, .row t' n c l)) (j : Nat) {y : α} (y' : α) (hoff : off = j * n) (hy : l[j]? = some y) (hn0 : 0 < n) (hcn : (c y').length = n) (hv : CanI S ev (c y')) (hn : sizeT P t = some n) :
    OpX P x S O ⟨d, .store t ep ev, ty, pos, aft, g⟩ (.raw undef) ((k, .row t' n c (l.set j y')) :: del k O) allp := by
  intro a w G V hs _ hS
  obtain ⟨b, hb, hvp⟩ := hp.eval hS
  have hm := List.mem_of_getElem? hk
  have hob := hs.obs _ hm
  simp only at hob
  obtain ⟨xs, ho, hc, hnn⟩ := hob
  have hyl := (List.getElem?_eq_some_iff.1 hy).1
  rcases ownsRow_cases ho with ⟨_, h5, h6, _⟩ | ⟨b', cap, cur, h5, h6, h7, h8, h9, h10, h11, h12⟩
  · omega
  · rw [h5] at hb
    simp only [blk, Option.some.injEq] at hb
    subst hb
    subst hoff
    have hrd := hv.eval hS
    have hsz : (a.eval ev).cells.size = n := by have := hrd.length; simp only [Array.length_toList] at this; omega
    have hle : j * n + n ≤ l.length * n := by
      have : (j + 1) * n ≤ l.length * n := Nat.mul_le_mul_right n hyl
      rw [Nat.succ_mul] at this; omega
    have hle2 : l.length * n ≤ cap * n := Nat.mul_le_mul_right n h6
    have h2 := run_storeCells_at P b' (j * n) t' (a.eval ev).cells.toList 0 cur w h8 (by simp only [Array.length_toList]; omega) hrd.one
    generalize hcs : (cur.toList.take (j * n + 0) ++ (a.eval ev).cells.toList ++ cur.toList.drop (j * n + 0 + (a.eval ev).cells.toList.length)).toArray = cs at h2
    have hrun : (storeVar t ⟨b', j * n, none⟩ (a.eval ev)).run P w = .ok () (w.setRow b' cs) := by
      simp only [storeVar, Sem.run_bind, run_sizeT hn, Result.andThen_ok, hsz]
      simpa using h2
    have hup : Upd (fun c => blkR (V k) = some c) w (w.setRow b' cs) := by
      refine ⟨rfl, rfl, rfl, by simp, fun c _ hc => setRow_other w b' c _ (fun e => hc ?_)⟩
      rw [h5, e]; exact blkR_mk h12
    have hG : ∀ c, G c → (w.setRow b' cs).heap[c]? = w.heap[c]? := fun c hc => hup.block c (hs.good c hc) (fun e => (hs.own _ hm c e).2.1 hc)
    refine Yields.skip (w' := w.setRow b' cs) (by simp [execOp, hvp, Instr.storeAt, Instr.sureAddr, hrun]) ⟨G, V, ?_, fun _ h => h, hG, fun _ _ => rfl, rfl⟩
    refine hs.turnIn hm hup ?_
    have hcsz : cs.size = cap * n := by rw [← hcs]; simp [hsz]; omega
    refine ⟨xs.take (j * n) ++ ((a.eval ev).cells.toList ++ xs.drop (j * n + n)), ?_, ?_, ?_⟩
    · rw [List.length_set]
      have hxl : (xs.take (j * n) ++ ((a.eval ev).cells.toList ++ xs.drop (j * n + n))).length = l.length * n := by simp [hsz]; omega
      refine .inl ⟨hxl, .inr ⟨b', cap, _, h5, Nat.zero_le _, setRow_heap w b' cur _ t' (0, 0) h8, h6, h7, hcsz, ?_⟩⟩
      rw [← hcs, ← h11]
      have hl1 : cur.toList.length = cap * n := by simpa using h9
      have := take_seg cur.toList (a.eval ev).cells.toList (j * n) n (l.length * n) (by simpa using hsz) hle (by omega)
      simp only [Nat.add_zero, Array.length_toList, hsz]
      exact this
    · rw [set_flatA l j y y' hnn hy hcn]
      exact (hc.mono hG (fun _ h => h)).seg (hrd.mono hG (fun _ h => h))
    · intro z hz
      rcases List.mem_or_eq_of_mem_set hz with h | h
      · exact hnn z h
      · subst h; exact hcn
end

section
variable {P : Program} {x : Cx} {S : List (Nat × SV)} {O : List (Nat × Ob)} {d : Option Nat} {ty : TypeId} {pos : String} {aft : Array Edge} {g : Option (Nat × Bool)}
/-- an array of the size of a struct, made of parts -/
theorem op_buildA {t e len sz : Nat} {parts : Array (Nat × Operand)} {zs : List Value} (L0 : List It) {its : List (Nat × List It)} {l : List It} (hz0 : ((P.info? t).bind (·.zero)).map (fun z => z.cells.toList) = some zs) (hu : P.underlying t = some (.array len e)) (hs : sizeT P e = some sz) (hz : ∀ w G, cellsRd w G zs L0)
    (hp : Parts S parts.toList its (fun i => some (i * sz, sz)) L0.length) (hl : its.foldl (fun L p => setSeg L p.1 p.2) L0 = l) : OpX P x S O ⟨d, .build t parts, ty, pos, aft, g⟩ (.agg l) O allp := .pure fun a w G V _ hS => by
  obtain ⟨h1, h2⟩ := hp.spec hS
  obtain ⟨cs, h3, h4⟩ := fill_rd (w := w) (G := G) (fun i => some (i * sz, sz)) (parts.toList.map fun p => (p.1, a.eval p.2)) its zs.toArray L0 (by simpa using hz w G) h1 h2
  refine ⟨.agg cs, ?_, cs.toList, by simp, by rw [← hl]; exact h4⟩
  cases hi : P.info? t with
  | none => simp [hi] at hz0
  | some it =>
    cases hzz : it.zero with
    | none => simp [hi, hzz] at hz0
    | some z =>
      simp only [hi, hzz, Option.bind_some, Option.map_some, Option.some.injEq] at hz0
      have hzc : z.cells = zs.toArray := by rw [← hz0]
      simp only [execOp, Sem.run_bind]
      rw [show (parts.map fun (i, x) => (i, a.eval x)) = (parts.map fun p => (p.1, a.eval p.2)) from rfl]
      have h5 : (Instr.build t (parts.map fun p => (p.1, a.eval p.2))).run P w = .ok (.agg cs) w := by
        have h6 : Instr.fill (fun i => some (i * sz, sz)) z.cells (parts.map fun p => (p.1, a.eval p.2)).toList = some cs := by
          rw [hzc, Array.toList_map]; exact h3
        unfold Instr.build
        simp only [Sem.run_bind, zeroValue, typeInfo, run_underlying hu, run_sizeT hs, Result.andThen_ok]
        simp only [run_program, Result.andThen_ok, hi, hzz, Sem.run_pure, h6, Sem.run_bind, run_underlying hu, run_sizeT hs]
      rw [h5]; rfl
/-- a place of an array that stands as a variable -/
theorem op_indexVar {t e len n o : Nat} {ex ei : Operand} {k t' : Nat} {cs : List SV} {j : Int} (hx : Can S ex (.ref k)) (i : Nat) (hk : O[i]? = some (k, .var t' cs)) (hi : Can S ei (I j)) (hu : P.underlying t = some (.array len e)) (hs : sizeT P e = some n) (hj : (decide (0 ≤ j) && decide (j < len)) = true) (ho : j.toNat * n = o) :
    OpX P x S O ⟨d, .indexAddr t ex ei, ty, pos, aft, g⟩ (.pt k o) O allp := .pure fun a w G V hsp hS => by
  simp only [Bool.and_eq_true, decide_eq_true_eq] at hj
  obtain ⟨h0, hlt⟩ := hj
  have hv : a.eval ex = V k := hx.eval hS
  have h1 : a.eval ei = .int .i64 j := hi.eval hS
  obtain ⟨b, cur, hv2, hh, hc⟩ := hsp.obs _ (List.mem_of_getElem? hk)
  simp only at hv2
  refine ⟨.pointer (some ⟨b, 0 + j.toNat * n, none⟩), ?_, b, by rw [hv2]; rfl, by simp [ho]⟩
  simp [execOp, hv, hv2, h1, Instr.indexAt, Instr.sureAddr, asIntOf, run_underlying hu, run_sizeT hs, h0, hlt, addr_add]
end

/-- s[:0:0] -/
theorem op_slice00 {P : Program} {x : Cx} {S : List (Nat × SV)} {O : List (Nat × Ob)} {d : Option Nat} {ty : TypeId} {pos : String} {aft : Array Edge} {g : Option (Nat × Bool)} {t e : TypeId} {ex ehi emx : Operand} {α β : Type} {n : Nat} {c : α → List It} {l : List α} {c' : β → List It} (id n' : Nat) (hx : Can S ex (SL n c l)) (hh : Can S ehi (I 0)) (hm : Can S emx (I 0)) (hu : P.underlying t = some (.slice e)) (hs : sizeT P e = some n) (hfr : freeO id O = true) :
    OpX P x S O ⟨d, .slice t ex none (some ehi) (some emx), ty, pos, aft, g⟩ (.ref id) ((id, .row e n' c' ([] : List β)) :: O) (butp id) := by
  intro a w G V hsp _ hS
  obtain ⟨ad, cap, hv, hcap, hcell⟩ := hx.eval hS
  simp only at hcap hv
  have h1 : a.eval ehi = .int .i64 0 := hh.eval hS
  have h2 : a.eval emx = .int .i64 0 := hm.eval hS
  have hr : ∃ a0, (execOp a.eval ⟨d, .slice t ex none (some ehi) (some emx), ty, pos, aft, g⟩).run P w = .ok (.value (.slice a0 0 0)) w := by
    cases ad with
    | none => exact ⟨none, by simp [execOp, hv, h1, h2, Instr.sliceAt, Instr.slice, Instr.sliceBounds, Instr.sliceBound, asIntOf, asInt, run_underlying hu, run_sizeT hs]⟩
    | some ad => exact ⟨some ad, by simp [execOp, hv, h1, h2, Instr.sliceAt, Instr.slice, Instr.sliceBounds, Instr.sliceBound, asIntOf, asInt, run_underlying hu, run_sizeT hs]⟩
  obtain ⟨a0, hr⟩ := hr
  refine Yields.value hr ⟨G, setV V id (.slice a0 0 0), ?_, fun _ h => h, fun _ _ => rfl, setV_but, setV_same.symm⟩
  refine hsp.turn (F := fun _ => False) (Upd.refl _ _) (fun _ f => f.elim) (fun e he => ⟨he, fun _ _ f => f⟩) hfr ⟨[], .inr ⟨rfl, rfl, a0, rfl⟩, trivial, by simp⟩ ?_
  intro b hb
  have hb : blkR (.slice a0 0 0) = some b := hb
  obtain ⟨h, _⟩ := blkR_at hb
  omega
end Go.Dl
