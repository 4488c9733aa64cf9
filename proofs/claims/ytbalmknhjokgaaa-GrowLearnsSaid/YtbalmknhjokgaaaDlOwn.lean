/- The data level, sixth text: rows of the call's own; what is handed on; calls. -/
import Derived.Test.YtbalmknhjokgaaaDlRow
set_option linter.unusedVariables false
namespace Go.Dl
open Go Go.RowKit

section
variable {P : Program} {x : Cx} {S : List (Nat × SV)} {O : List (Nat × Ob)} {d : Option Nat} {ty : TypeId} {pos : String} {aft : Array Edge} {g : Option (Nat × Bool)}

theorem ownsRow_cases0 {w : World} {t : TypeId} {n m : Nat} {v : Value} {xs : List Value} (h : w.ownsRow 0 t n v m xs) : (v = .slice none 0 0 ∧ m = 0) ∨ ∃ b cap cur, v = .slice (some ⟨b, 0, none⟩) m cap ∧ m ≤ cap ∧ cap ≤ maxLen ∧ w.heap[b]? = some (.cells cur t (0, 0)) ∧ cur.size = cap * n ∧ xs.length = m * n ∧ cur.toList.take (m * n) = xs := by
  rcases h.2 with h1 | ⟨b, cap, cur, h1, _, h2, h3, h4, h5, h6⟩
  · exact .inl h1
  · exact .inr ⟨b, cap, cur, h1, h3, h4, h2, h5, h.1, h6⟩

theorem ownsRow_cases {w : World} {t : TypeId} {n m : Nat} {v : Value} {xs : List Value} (h : ownsR w t n v m xs) : (∃ a, v = .slice a 0 0 ∧ m = 0 ∧ xs = []) ∨ ∃ b cap cur, v = .slice (some ⟨b, 0, none⟩) m cap ∧ m ≤ cap ∧ cap ≤ maxLen ∧ w.heap[b]? = some (.cells cur t (0, 0)) ∧ cur.size = cap * n ∧ xs.length = m * n ∧ cur.toList.take (m * n) = xs ∧ 0 < cap := by
  rcases h with h | ⟨h1, h2, a, h3⟩
  · have hl := h.1
    rcases ownsRow_cases0 h with ⟨h1, h2⟩ | ⟨b, cap, cur, h1, h2, h3, h4, h5, h6, h7⟩
    · subst h2
      exact .inl ⟨none, h1, rfl, List.eq_nil_of_length_eq_zero (by simpa using hl)⟩
    · by_cases hc : cap = 0
      · subst hc
        have hm : m = 0 := by omega
        subst hm
        exact .inl ⟨_, h1, rfl, List.eq_nil_of_length_eq_zero (by simpa using hl)⟩
      · exact .inr ⟨b, cap, cur, h1, h2, h3, h4, h5, h6, h7, by omega⟩
  · exact .inl ⟨a, h3, h1, h2⟩
theorem ownsRow_blkR {w : World} {t : TypeId} {n m : Nat} {v : Value} {xs : List Value} (h : w.ownsRow 0 t n v m xs) {b : Nat} (hb : blkR v = some b) : b < w.heap.size ∧ ∃ cap, v = .slice (some ⟨b, 0, none⟩) m cap := by
  rcases ownsRow_cases0 h with ⟨h1, h2⟩ | ⟨b', cap, cur, h1, h2, h3, h4, h5, h6, h7⟩
  · rw [h1] at hb; cases hb
  · rw [h1] at hb
    obtain ⟨_, x, hx, rfl⟩ := blkR_at hb
    cases hx
    exact ⟨block_lt h4, cap, h1⟩

theorem row_len_at {α : Type} {c : α → List It} {n m : Nat} {cur : Array Value} {cap : Nat} {xs : List Value} (hs : cur.size = cap * n) (hmc : m ≤ cap) (hx : xs.length = m * n) (ht : cur.toList.take (m * n) = xs) : ∀ j, j < xs.length → cur[j]? = xs[j]? := by
  intro j hj
  rw [← ht, List.getElem?_take, if_pos (by omega)]; simp

theorem op_lenR {t e : TypeId} {ex : Operand} {k : Nat} {t' : TypeId} {n : Nat} {α : Type} {c : α → List It} {l : List α} (hx : Can S ex (.ref k)) (i : Nat) (hk : O[i]? = some (k, .row t' n c l)) (hu : P.underlying t = some (.slice e)) :
    OpX P x S O ⟨d, .call { callee := .builtin .len, args := #[ex], argTypes := #[t] }, ty, pos, aft, g⟩ (I l.length) O allp := .pure fun a w G V hs hS => by
  have hv : a.eval ex = V k := hx.eval hS
  obtain ⟨xs, ho, hc, hn⟩ := hs.obs _ (List.mem_of_getElem? hk)
  simp only at ho
  rcases ownsRow_cases ho with ⟨_, h1, h2, _⟩ | ⟨b, cap, cur, h1, _⟩
  · exact ⟨.int .i64 l.length, by simp [execOp, resolve, invoke, builtin, hv, h1, h2, Builtin.len_, run_underlying hu, goInt], rfl⟩
  · exact ⟨.int .i64 l.length, by simp [execOp, resolve, invoke, builtin, hv, h1, Builtin.len_, run_underlying hu, goInt], rfl⟩

/-- the place of an element of a row -/
theorem op_indexR {t e : TypeId} {ex ei : Operand} {k : Nat} {t' : TypeId} {n : Nat} {α : Type} {c : α → List It} {l : List α} {j : Int} (hx : Can S ex (.ref k)) (i : Nat) (hk : O[i]? = some (k, .row t' n c l)) (hi : Can S ei (I j)) (hu : P.underlying t = some (.slice e)) (hs : sizeT P e = some n)
    (h0 : 0 ≤ j) (hj : j.toNat < l.length) : OpX P x S O ⟨d, .indexAddr t ex ei, ty, pos, aft, g⟩ (.pt k (j.toNat * n)) O allp := .pure fun a w G V hsp hS => by
  have hv : a.eval ex = V k := hx.eval hS
  have h1 : a.eval ei = .int .i64 j := hi.eval hS
  obtain ⟨xs, ho, hc, hn⟩ := hsp.obs _ (List.mem_of_getElem? hk)
  simp only at ho
  rcases ownsRow_cases ho with ⟨_, h2, h3, _⟩ | ⟨b, cap, cur, h2, _⟩
  · omega
  · refine ⟨.pointer (some ⟨b, 0 + j.toNat * n, none⟩), ?_, b, by rw [h2]; rfl, by simp⟩
    have hlt : j < l.length := by omega
    simp [execOp, hv, h2, h1, Instr.indexAt, asIntOf, run_underlying hu, run_sizeT hs, h0, hlt, addr_add]

theorem row_cell {w : World} {G : Good} {V : Nat → Value} {t' : TypeId} {n : Nat} {α : Type} {c : α → List It} {l : List α} {v : Value} (h : (Ob.row t' n c l).holds w G V v) {i f : Nat} {y : α} {it : It} (hy : l[i]? = some y) (hf : (c y)[f]? = some it) :
    ∃ b cap cur u, v = .slice (some ⟨b, 0, none⟩) l.length cap ∧ w.heap[b]? = some (.cells cur t' (0, 0)) ∧ w.cell? ⟨b, i * n + f, none⟩ = some u ∧ it.rd w G u ∧ i * n + f < cur.size ∧ 0 < cap := by
  obtain ⟨xs, ho, hc, hn⟩ := h
  obtain ⟨hi, hyy⟩ := List.getElem?_eq_some_iff.1 hy
  obtain ⟨hfl, hff⟩ := List.getElem?_eq_some_iff.1 hf
  have hcn := hn y (hyy ▸ List.getElem_mem hi)
  rcases ownsRow_cases ho with ⟨_, h2, h3, _⟩ | ⟨b, cap, cur, h2, h3, h4, h5, h6, h7, h8, h9⟩
  · omega
  · have hlt : i * n + f < l.length * n := by
      have : (i + 1) * n ≤ l.length * n := Nat.mul_le_mul_right n hi
      rw [Nat.succ_mul] at this; omega
    have hle : l.length * n ≤ cap * n := Nat.mul_le_mul_right n h3
    have hcell : (l.flatMap c)[i * n + f]? = some it := by
      have key : ∀ (l : List α) (i : Nat), (∀ y ∈ l, (c y).length = n) → l[i]? = some y → (l.flatMap c)[i * n + f]? = some it := by
        intro l
        induction l with
        | nil => intro i _ h; simp at h
        | cons z l ih =>
          intro i hn hy
          cases i with
          | zero =>
            simp at hy; subst hy
            simp only [List.flatMap_cons, Nat.zero_mul, Nat.zero_add]
            rw [List.getElem?_append_left hfl, hf]
          | succ i =>
            simp only [List.flatMap_cons]
            rw [List.getElem?_append_right (by rw [hn z (by simp), Nat.succ_mul]; omega), hn z (by simp), ← ih i (fun y hy => hn y (by simp [hy])) (by simpa using hy)]
            congr 1
            rw [Nat.succ_mul]; omega
      exact key l i hn hy
    obtain ⟨hcl, hcg⟩ := List.getElem?_eq_some_iff.1 hcell
    have hr := hc.get (i * n + f) hcl (by omega)
    refine ⟨b, cap, cur, xs[i * n + f]'(by omega), h2, h5, ?_, by rw [← hcg]; exact hr, by omega, h9⟩
    rw [cell_of_row w b _ cur t' (0, 0) h5, row_len_at (c := c) h6 h3 h7 h8 _ (by omega), List.getElem?_eq_getElem]

/-- one cell of an element of a row read -/
theorem op_loadR {t : TypeId} {ex : Operand} {k off : Nat} {t' : TypeId} {n : Nat} {α : Type} {c : α → List It} {l : List α} (hx : Can S ex (.pt k off)) (i : Nat) (hk : O[i]? = some (k, .row t' n c l)) (j f : Nat) {y : α} {it : It} (hoff : off = j * n + f) (hy : l[j]? = some y) (hf : (c y)[f]? = some it) (ha : aggB P t = some false) :
    OpX P x S O ⟨d, .load t ex, ty, pos, aft, g⟩ (.c it) O allp := .pure fun a w G V hs hS => by
  obtain ⟨b, hb, hv⟩ := hx.eval hS
  obtain ⟨b', cap, cur, u, h1, h2, h3, h4, _⟩ := row_cell (hs.obs _ (List.mem_of_getElem? hk)) hy hf
  simp only at h1
  rw [h1] at hb
  simp only [blk, Option.some.injEq] at hb
  subst hb
  subst hoff
  exact ⟨u, by simp [execOp, hv, Instr.loadAt, Instr.sureAddr, loadVar, run_aggB ha, h3], h4⟩

/-- a whole element of a row read -/
theorem op_loadRA {t : TypeId} {ex : Operand} {k off : Nat} {t' : TypeId} {n : Nat} {α : Type} {c : α → List It} {l : List α} (hx : Can S ex (.pt k off)) (i : Nat) (hk : O[i]? = some (k, .row t' n c l)) (j : Nat) {y : α} (hoff : off = j * n) (hy : l[j]? = some y) (ha : aggB P t = some true) (hn : sizeT P t = some n) (hcn : (c y).length = n) :
    OpX P x S O ⟨d, .load t ex, ty, pos, aft, g⟩ (.agg (c y)) O allp := .pure fun a w G V hs hS => by
  obtain ⟨b, hb, hv⟩ := hx.eval hS
  have hob := hs.obs _ (List.mem_of_getElem? hk)
  have hca : cellsAt w G b off (c y) := by
    intro f hf
    obtain ⟨b', cap, cur, u, h1, h2, h3, h4, _⟩ := row_cell hob hy (List.getElem?_eq_getElem hf)
    simp only at h1
    rw [h1] at hb
    simp only [blk, Option.some.injEq] at hb
    subst hb
    subst hoff
    exact ⟨u, h3, h4⟩
  obtain ⟨us, h3, h4, h5⟩ := hca.list
  rw [← hcn] at hn
  exact ⟨.agg us.toArray, by simp [execOp, hv, Instr.loadAt, Instr.sureAddr, run_loadAgg ha hn h3 h4], us, rfl, h5⟩

theorem set_flat {α : Type} {c : α → List It} {n : Nat} : ∀ (l : List α) (i f : Nat) (y y' : α) (it : It), (∀ z ∈ l, (c z).length = n) → l[i]? = some y → c y' = (c y).set f it → f < n → (l.set i y').flatMap c = (l.flatMap c).set (i * n + f) it
  | [], i, f, y, y', it, _, h, _, _ => by simp at h
  | z :: l, 0, f, y, y', it, hn, h, hc, hf => by
    simp at h; subst h
    simp only [List.set_cons_zero, List.flatMap_cons, Nat.zero_mul, Nat.zero_add, hc]
    rw [List.set_append_left _ _ (by rw [hn z (by simp)]; exact hf)]
  | z :: l, i + 1, f, y, y', it, hn, h, hc, hf => by
    have hz := hn z (by simp)
    simp only [List.set_cons_succ, List.flatMap_cons]
    rw [set_flat l i f y y' it (fun z hz => hn z (by simp [hz])) (by simpa using h) hc hf, List.set_append_right _ _ (by rw [hz, Nat.succ_mul]; omega), hz]
    congr 2
    rw [Nat.succ_mul]; omega

theorem cellsRd.set {w : World} {G : Good} : ∀ {us : List Value} {is : List It} {j : Nat} {u : Value} {i : It}, cellsRd w G us is → i.rd w G u → cellsRd w G (us.set j u) (is.set j i)
  | [], [], _, _, _, _, _ => by simp [cellsRd]
  | _ :: _, _ :: _, 0, _, _, h, h1 => ⟨h1, h.2⟩
  | _ :: _, _ :: _, j + 1, _, _, h, h1 => ⟨h.1, cellsRd.set h.2 h1⟩
  | [], _ :: _, _, _, _, h, _ => h.elim
  | _ :: _, [], _, _, _, h, _ => h.elim

/-- one cell of an element of a row written -/
theorem op_storeR {t : TypeId} {ep ev : Operand} {k off : Nat} {t' : TypeId} {n : Nat} {α : Type} {c : α → List It} {l : List α} {it : It} (hp : Can S ep (.pt k off)) (i : Nat) (hk : O[i]? = some (k, .row t' n c l)) (j f : Nat) {y : α} (y' : α) (hoff : off = j * n + f) (hy : l[j]? = some y) (hf : f < (c y).length) (hy' : c y' = (c y).set f it) (hv : Can S ev (.c it)) (hn : sizeT P t = some 1) :
    OpX P x S O ⟨d, .store t ep ev, ty, pos, aft, g⟩ (.raw undef) ((k, .row t' n c (l.set j y')) :: del k O) allp := by
  intro a w G V hs _ hS
  obtain ⟨b, hb, hvp⟩ := hp.eval hS
  have hm := List.mem_of_getElem? hk
  have hob := hs.obs _ hm
  obtain ⟨b', cap, cur, u, h1, h2, h3, h4, hlt, hcap0⟩ := row_cell hob hy (List.getElem?_eq_getElem hf)
  simp only at h1 hob
  rw [h1] at hb
  simp only [blk, Option.some.injEq] at hb
  subst hb
  subst hoff
  have hsv : it.rd w G (a.eval ev) := hv.eval hS
  have hone := it.r.one hsv
  have hrun := run_storeCell (P := P) hn h2 hlt hone
  have hup : Upd (fun c => blkR (V k) = some c) w (w.setRow b' (cur.setIfInBounds (j * n + f) (a.eval ev))) := by
    refine ⟨rfl, rfl, rfl, by simp, fun c _ hc => setRow_other w b' c _ (fun e => hc ?_)⟩
    rw [h1, e]; exact blkR_mk hcap0
  have hG : ∀ c, G c → (w.setRow b' (cur.setIfInBounds (j * n + f) (a.eval ev))).heap[c]? = w.heap[c]? := fun c hc => hup.block c (hs.good c hc) (fun e => (hs.own _ hm c e).2.1 hc)
  refine Yields.skip (w' := w.setRow b' (cur.setIfInBounds (j * n + f) (a.eval ev))) (by simp [execOp, hvp, Instr.storeAt, Instr.sureAddr, hrun]) ⟨G, V, ?_, fun _ h => h, hG, fun _ _ => rfl, rfl⟩
  refine hs.turnIn hm hup ?_
  obtain ⟨xs, ho, hc, hnn⟩ := hob
  rcases ownsRow_cases ho with ⟨_, h5, _⟩ | ⟨b2, cap2, cur2, h5, h6, h7, h8, h9, h10, h11, _⟩
  · rw [h1] at h5; simp at h5; omega
  · rw [h1] at h5
    simp only [Value.slice.injEq, Option.some.injEq, Addr.mk.injEq, and_true, true_and] at h5
    obtain ⟨rfl, rfl⟩ := h5
    rw [h2] at h8
    simp only [Option.some.injEq, Obj.cells.injEq, and_true] at h8
    subst h8
    have hyl := (List.getElem?_eq_some_iff.1 hy).1
    have hyn := hnn y ((List.getElem?_eq_some_iff.1 hy).2 ▸ List.getElem_mem hyl)
    refine ⟨xs.set (j * n + f) (a.eval ev), ?_, ?_, ?_⟩
    · rw [List.length_set]
      refine .inl ⟨by simpa using h10, .inr ⟨b', cap, _, h1, Nat.zero_le _, setRow_heap w b' cur _ t' (0, 0) h2, h6, h7, by simpa using h9, ?_⟩⟩
      rw [Array.toList_setIfInBounds, ← h11, List.take_set]
    · rw [set_flat l j f y y' it hnn hy hy' (by omega)]
      exact (hc.mono hG (fun _ h => h)).set (It.mono hG (fun _ h => h) hsv)
    · intro z hz
      rcases List.mem_or_eq_of_mem_set hz with h | h
      · exact hnn z h
      · subst h; rw [hy', List.length_set]; exact hyn

/-- a nil slice that will grow -/
theorem op_nilRow {e : Operand} (id : Nat) (t' : TypeId) (n : Nat) {α : Type} (c : α → List It) (he : e = .const (.slice none 0 0)) (hfr : freeO id O = true) : OpX P x S O ⟨d, .assign e, ty, pos, aft, g⟩ (.ref id) ((id, .row t' n c []) :: O) (butp id) := by
  subst he
  intro a w G V hs _ hS
  refine Yields.value (v := .slice none 0 0) (w' := w) rfl ⟨G, setV V id (.slice none 0 0), ?_, fun _ h => h, fun _ _ => rfl, setV_but, setV_same.symm⟩
  refine hs.turn (F := fun _ => False) (Upd.refl _ _) (fun _ f => f.elim) (fun e he => ⟨he, fun _ _ f => f⟩) hfr ⟨[], .inl (World.ownsRow_nil _ _ _ _), trivial, fun y hy => by simp at hy⟩ ?_
  intro b hb
  cases hb


def infoT (P : Program) (e : TypeId) : Option (Nat × Nat × Nat) := (P.info? e).bind fun i => i.zero.map fun z => (i.size, i.bytes, z.cells.size)

theorem old_step {p q : Bool} {A B : Prop} (h : (!p || q) = true) (k : A ∨ (B ∧ p = true)) : A ∨ (B ∧ q = true) := by
  rcases k with k | ⟨k, rfl⟩
  · exact .inl k
  · exact .inr ⟨k, by simpa using h⟩

theorem news_of {α : Type} {c : α → List It} {n : Nat} {w : World} {G : Good} {b0 off : Nat} {l2 : List α} (hcn : ∀ y, (c y).length = n) (hn0 : 0 < n) (hcells : ∀ i (h : i < l2.length), cellsAt w G b0 (off + i * n) (c l2[i])) :
    ∃ news : List Value, news.length = l2.length * n ∧ (∀ j u, news[j]? = some u → w.cell? ((⟨b0, off, none⟩ : Addr).add j) = some u) ∧ cellsRd w G news (l2.flatMap c) := by
  have hat : cellsAt w G b0 off (l2.flatMap c) := by
    intro j hj
    rw [flatMap_len hcn] at hj
    have h1 : j / n < l2.length := Nat.div_lt_of_lt_mul (by rw [Nat.mul_comm]; exact hj)
    have h2 : j % n < n := Nat.mod_lt _ hn0
    have h4 := hcells (j / n) h1 (j % n) (by rw [hcn]; exact h2)
    obtain ⟨u, h5, h6⟩ := h4
    have h7 : j / n * n + j % n = j := by rw [Nat.mul_comm]; exact Nat.div_add_mod j n
    have h8 := flatMap_cell hcn l2 (j / n) (j % n) h2
    rw [h7] at h8
    refine ⟨u, by rw [← h5, Nat.add_assoc, h7], ?_⟩
    rw [List.getElem?_eq_getElem (by rw [flatMap_len hcn]; exact hj), List.getElem?_eq_getElem h1, Option.bind_some, List.getElem?_eq_getElem (by rw [hcn]; exact h2)] at h8
    rw [Option.some.inj h8]
    exact h6
  obtain ⟨news, h1, h2, h3⟩ := hat.list
  rw [flatMap_len hcn] at h1
  exact ⟨news, h1, fun j u hu => by
    obtain ⟨h7, h8⟩ := List.getElem?_eq_some_iff.1 hu
    rw [addr_add, h2 j h7, h8], h3⟩

/-- append -/
theorem op_append {t e : TypeId} {es ex : Operand} {k : Nat} {n by_ : Nat} {α : Type} {c : α → List It} {l l2 : List α} (id : Nat) (hx : Can S es (.ref k)) (i : Nat) (hk : O[i]? = some (k, .row e n c l)) (hy : Can S ex (SL n c l2)) (hu : P.underlying t = some (.slice e)) (hi : infoT P e = some (n, by_, n)) (hn0 : 0 < n) (hby : by_ ≤ 4096)
    (hcn : ∀ y, (c y).length = n) (hlim : l.length + l2.length ≤ LIM) (hfr : freeO id (del k O) = true) (hold : (!x.old k || x.old id) = true) :
    OpX P x S O ⟨d, .call { callee := .builtin .append, args := #[es, ex], argTypes := #[t, t] }, ty, pos, aft, g⟩ (.ref id) ((id, .row e n c (l ++ l2)) :: del k O) (butp id) := by
  intro a w G V hs _ hS
  have hv : a.eval es = V k := hx.eval hS
  have hm := List.mem_of_getElem? hk
  obtain ⟨xs, hoR, hc, hnn⟩ := hs.obs _ hm
  simp only at hoR
  obtain ⟨ad, cap, hv2, hcap, hcell⟩ := hy.eval hS
  simp only at hcap hcell hv2
  cases hinf : P.info? e with
  | none => simp [infoT, hinf] at hi
  | some ie =>
    cases hz : ie.zero with
    | none => simp [infoT, hinf, hz] at hi
    | some z =>
      simp only [infoT, hinf, hz, Option.bind_some, Option.map_some, Option.some.injEq, Prod.mk.injEq] at hi
      obtain ⟨hi1, hi2, hi3⟩ := hi
      have hlen := hc.length
      -- what is appended
      have key1 : ∀ vk : Value, (ho : w.ownsRow 0 e n vk l.length xs) → ∃ v' w' news, (Builtin.append_ #[t, t] ty #[vk, a.eval ex]).run P w = .ok v' w' ∧ w'.ownsRow 0 e n v' (l.length + l2.length) (xs ++ news) ∧ w.grownBy w' vk.ownBlock ∧ cellsRd w G news (l2.flatMap c) ∧ (∀ b, blk v' = some b → b < w'.heap.size ∧ (blk vk = some b ∨ w.heap.size ≤ b)) := by
        intro vk ho
        by_cases hl2 : l2 = []
        · subst hl2
          cases ad with
          | none =>
            refine ⟨vk, w, [], ?_, by simpa using ho, ⟨rfl, rfl, rfl, Nat.le_refl _, fun _ _ _ => rfl⟩, trivial, fun b hb => ⟨(ownsRow_blk ho b hb).2, .inl hb⟩⟩
            rw [hv2]
            rcases ownsRow_cases0 ho with ⟨h1, h2⟩ | ⟨b, cap1, cur, h1, h2, _⟩
            · rw [h1]; simp [Builtin.append_, run_underlying hu, Go.sizeOf, typeInfo, hinf, Builtin.lenOf, Builtin.firstCells]
            · rw [h1]; simp [Builtin.append_, run_underlying hu, Go.sizeOf, typeInfo, hinf, Builtin.lenOf, Builtin.firstCells, h2, storeCells]
          | some ad =>
            obtain ⟨v', w', hr, h1, h2, h3⟩ := run_append_own (P := P) w 0 t ty e ie z n by_ hu hinf hz hi1 hi2 hi3 hn0 vk l.length xs ho ad 0 cap [] (by simp) (by simp) (by simp) (by unfold maxLen; have h := hlim; simp only [LIM, List.length_nil] at h; omega) (by
              have : l.length * by_ ≤ LIM * 4096 := Nat.mul_le_mul (by simpa using hlim) hby
              simp only [LIM] at this; simp only [Nat.add_zero]; omega) (Nat.zero_le _)
            refine ⟨v', w', [], by rw [hv2]; exact hr, h1, h2, trivial, ?_⟩
            intro b hb
            rcases ownsRow_cases0 h1 with ⟨h5, _⟩ | ⟨b1, cap1, cur1, h5, _, _, h6, _⟩
            · rw [h5] at hb; simp [blk] at hb
            · rw [h5] at hb
              simp only [blk, Option.some.injEq] at hb
              subst hb
              refine ⟨block_lt h6, ?_⟩
              by_cases hlt : b1 < w.heap.size
              · left
                rcases ownsRow_cases0 ho with ⟨h7, h8⟩ | ⟨b2, cap2, cur2, h7, h8, h9, h10, h11, _⟩
                · have := h3.2 ⟨h7, rfl⟩; rw [h5] at this; simp at this
                · by_cases hroom : l.length + 0 ≤ cap2
                  · have hr2 := run_append_room (P := P) w t ty e ie hu hinf b2 l.length cap2 cur2 h10 ad 0 cap [] (by simp) (by simp) (by simp) hroom (by simp; rw [hi1, h11]; exact Nat.mul_le_mul_right n h8)
                    rw [h7, hr2] at hr
                    simp only [Result.ok.injEq] at hr
                    rw [← hr.1] at h5
                    simp only [Value.slice.injEq, Option.some.injEq, Addr.mk.injEq, and_true] at h5
                    rw [h7, ← h5.1]; rfl
                  · omega
              · right; omega
        · obtain ⟨b0, off, rfl, hb0, hcells⟩ := hcell hl2
          have hat : cellsAt w G b0 off (l2.flatMap c) := by
            intro j hj
            rw [flatMap_len hcn] at hj
            have h1 : j / n < l2.length := Nat.div_lt_of_lt_mul (by rw [Nat.mul_comm]; exact hj)
            have h2 : j % n < n := Nat.mod_lt _ hn0
            have h4 := hcells (j / n) h1 (j % n) (by rw [hcn]; exact h2)
            obtain ⟨u, h5, h6⟩ := h4
            have h7 : j / n * n + j % n = j := by rw [Nat.mul_comm]; exact Nat.div_add_mod j n
            have h8 := flatMap_cell hcn l2 (j / n) (j % n) h2
            rw [h7] at h8
            refine ⟨u, by rw [← h5, Nat.add_assoc, h7], ?_⟩
            rw [List.getElem?_eq_getElem (by rw [flatMap_len hcn]; exact hj), List.getElem?_eq_getElem h1, Option.bind_some, List.getElem?_eq_getElem (by rw [hcn]; exact h2)] at h8
            rw [Option.some.inj h8]
            exact h6
          obtain ⟨news, h1, h2, h3⟩ := hat.list
          rw [flatMap_len hcn] at h1
          obtain ⟨v', w', hr, h4, h5, h6⟩ := run_append_own (P := P) w 0 t ty e ie z n by_ hu hinf hz hi1 hi2 hi3 hn0 vk l.length xs ho ⟨b0, off, none⟩ l2.length cap news h1 (fun j u hu => by
              obtain ⟨h7, h8⟩ := List.getElem?_eq_some_iff.1 hu
              rw [addr_add, h2 j h7, h8]) (h3.one) (by unfold maxLen; simp only [LIM] at hlim; omega) (by
              have : (l.length + l2.length) * by_ ≤ LIM * 4096 := Nat.mul_le_mul hlim hby
              simp only [LIM] at this; omega) (Nat.zero_le _)
          refine ⟨v', w', news, by rw [hv2]; exact hr, h4, h5, h3, ?_⟩
          intro b hb
          rcases ownsRow_cases0 h4 with ⟨h7, _⟩ | ⟨b1, cap1, cur1, h7, _, _, h8, _⟩
          · rw [h7] at hb; simp [blk] at hb
          · rw [h7] at hb
            simp only [blk, Option.some.injEq] at hb
            subst hb
            refine ⟨block_lt h8, ?_⟩
            by_cases hlt : b1 < w.heap.size
            · left
              rcases ownsRow_cases0 ho with ⟨h9, h10⟩ | ⟨b2, cap2, cur2, h9, h10, h11, h12, h13, h14, h15⟩
              · -- a nil row: a new block
                have hpos : 0 < l2.length := List.length_pos_iff.2 hl2
                have hr2 := run_append_nil (P := P) w t ty e ie z hu hinf hz ⟨b0, off, none⟩ l2.length cap news (by rw [hi1]; exact h1) (fun j u hu => by
                  obtain ⟨h7, h8⟩ := List.getElem?_eq_some_iff.1 hu
                  rw [addr_add, h2 j h7, h8]) hpos (by simp only [LIM] at hlim; omega) (by
                    have : l2.length * by_ ≤ LIM * 4096 := Nat.mul_le_mul (by omega) hby
                    simp only [LIM] at this; rw [hi2]; omega)
                rw [h9, hr2] at hr
                simp only [Result.ok.injEq] at hr
                rw [← hr.1] at h7
                simp only [Value.slice.injEq, Option.some.injEq, Addr.mk.injEq, and_true] at h7
                omega
              · by_cases hroom : l.length + l2.length ≤ cap2
                · have hr2 := run_append_room (P := P) w t ty e ie hu hinf b2 l.length cap2 cur2 h12 ⟨b0, off, none⟩ l2.length cap news (by rw [hi1]; exact h1) (fun j u hu => by
                    obtain ⟨h7, h8⟩ := List.getElem?_eq_some_iff.1 hu
                    rw [addr_add, h2 j h7, h8]) h3.one hroom (by rw [hi1, h1, h13, ← Nat.add_mul]; exact Nat.mul_le_mul_right n hroom)
                  rw [h9, hr2] at hr
                  simp only [Result.ok.injEq] at hr
                  rw [← hr.1] at h7
                  simp only [Value.slice.injEq, Option.some.injEq, Addr.mk.injEq, and_true] at h7
                  rw [h9, ← h7.1]; rfl
                · have hr2 := run_append_grow (P := P) w t ty e ie z hu hinf hz ⟨b2, 0, none⟩ l.length cap2 xs (by rw [hi1]; exact h14) (fun j u hu => by
                    have hjl := (List.getElem?_eq_some_iff.1 hu).1
                    rw [addr_add, Nat.zero_add, cell_of_row w b2 j cur2 e (0, 0) h12, row_len_at (c := c) h13 h10 h14 h15 j hjl, hu]) ⟨b0, off, none⟩ l2.length cap news (by rw [hi1]; exact h1) (fun j u hu => by
                    obtain ⟨h7, h8⟩ := List.getElem?_eq_some_iff.1 hu
                    rw [addr_add, h2 j h7, h8]) (by omega) (by simp only [LIM] at hlim; omega) (growslice_fits (by omega) (by
                      have : (l.length + l2.length) * by_ ≤ LIM * 4096 := Nat.mul_le_mul hlim hby
                      simp only [LIM] at this; rw [hi2]; omega))
                  rw [h9, hr2] at hr
                  simp only [Result.ok.injEq] at hr
                  rw [← hr.1] at h7
                  simp only [Value.slice.injEq, Option.some.injEq, Addr.mk.injEq, and_true] at h7
                  omega
            · right; omega
      have key : ∃ v' w' news, (Builtin.append_ #[t, t] ty #[V k, a.eval ex]).run P w = .ok v' w' ∧ ownsR w' e n v' (l.length + l2.length) (xs ++ news) ∧ Upd (fun b => blkR (V k) = some b) w w' ∧ cellsRd w G news (l2.flatMap c) ∧ (∀ b, blkR v' = some b → b < w'.heap.size ∧ (blkR (V k) = some b ∨ w.heap.size ≤ b)) := by
        rcases ownsRow_cases hoR with ⟨a0, e1, e2, e3⟩ | ⟨b, cap0, cur, e1, e2, e3, e4, e5, e6, e7, e8⟩
        · have hl0 : l = [] := List.eq_nil_of_length_eq_zero e2
          subst hl0 e3
          by_cases hl2 : l2 = []
          · subst hl2
            refine ⟨V k, w, [], ?_, .inr ⟨rfl, rfl, a0, e1⟩, Upd.refl _ _, trivial, fun b hb => ?_⟩
            · rw [hv2, e1]
              cases ad with
              | none => cases a0 <;> simp [Builtin.append_, run_underlying hu, Go.sizeOf, typeInfo, hinf, Builtin.lenOf, Builtin.firstCells, storeCells]
              | some ad =>
                have hf := run_firstCells_some (P := P) w ie.size 0 ad 0 cap [] (by simp) (by simp)
                cases a0 <;> simp [Builtin.append_, run_underlying hu, Go.sizeOf, typeInfo, hinf, Builtin.lenOf, hf, storeCells]
            · rw [e1] at hb
              obtain ⟨h, _⟩ := blkR_at hb
              omega
          · obtain ⟨v', w', news, hr, h1, h2, h3, h4⟩ := key1 (.slice none 0 0) (World.ownsRow_nil _ _ _ _)
            refine ⟨v', w', news, ?_, .inl h1, ⟨h2.os, h2.tape, h2.output, h2.size, fun k hk _ => h2.block k hk (by simp [Value.ownBlock])⟩, h3, fun b hb => ?_⟩
            · cases a0 with
              | none => rw [e1]; exact hr
              | some ad0 =>
                rw [← hr, e1, hv2]
                obtain ⟨b0, off, rfl, hb0, hcells⟩ := hcell hl2
                have hpos : 0 < l2.length := List.length_pos_iff.2 hl2
                obtain ⟨news2, g1, g2, g3⟩ := news_of hcn hn0 hcells
                rw [run_append_nil (P := P) w t ty e ie z hu hinf hz ⟨b0, off, none⟩ l2.length cap news2 (by rw [hi1]; exact g1) g2 hpos (by simp only [LIM] at hlim; omega) (by
                  have : l2.length * by_ ≤ LIM * 4096 := Nat.mul_le_mul (by simpa using hlim) hby
                  simp only [LIM] at this; rw [hi2]; omega)]
                rw [run_append_grow (P := P) w t ty e ie z hu hinf hz ad0 0 0 [] (by simp) (by simp) ⟨b0, off, none⟩ l2.length cap news2 (by rw [hi1]; exact g1) g2 (by omega) (by simp only [LIM] at hlim; omega) (growslice_fits (by omega) (by
                  have : (0 + l2.length) * by_ ≤ LIM * 4096 := Nat.mul_le_mul (by simpa using hlim) hby
                  simp only [LIM] at this; rw [hi2]; omega))]
                simp
            · obtain ⟨h5, h6⟩ := h4 b (blkR_blk hb)
              refine ⟨h5, .inr ?_⟩
              rcases h6 with h6 | h6
              · cases h6
              · exact h6
        · have ho : w.ownsRow 0 e n (V k) l.length xs := ⟨e6, .inr ⟨b, cap0, cur, e1, Nat.zero_le _, e4, e2, e3, e5, e7⟩⟩
          obtain ⟨v', w', news, hr, h1, h2, h3, h4⟩ := key1 (V k) ho
          refine ⟨v', w', news, hr, .inl h1, ⟨h2.os, h2.tape, h2.output, h2.size, fun c hc hn => h2.block c hc (fun e => hn ?_)⟩, h3, fun c hc => ?_⟩
          · rw [e1] at e ⊢
            simp only [Value.ownBlock, Option.some.injEq] at e
            rw [← e]; exact blkR_mk e8
          · obtain ⟨h5, h6⟩ := h4 c (blkR_blk hc)
            refine ⟨h5, h6.imp (fun h => ?_) (fun h => h)⟩
            rw [e1] at h ⊢
            simp only [blk, Option.some.injEq] at h
            rw [← h]; exact blkR_mk e8
      obtain ⟨v', w', news, hr, h1, h2, h3, h4⟩ := key
      have hup := h2
      have hG : ∀ b, G b → w'.heap[b]? = w.heap[b]? := fun b hb => hup.block b (hs.good b hb) (fun e => (hs.own _ hm b e).2.1 hb)
      refine Yields.value (v := v') (w' := w') ?_ ⟨G, setV V id v', ?_, fun _ h => h, hG, setV_but, setV_same.symm⟩
      · simp only [execOp, resolve, Sem.run_bind, Sem.run_pure, Result.andThen_ok, invoke, builtin, List.map_toArray, List.map_cons, List.map_nil, hv, hr]
      · refine hs.turn hup (fun b hb => ⟨(hs.own _ hm b hb).2.1, old_step hold (hs.own _ hm b hb).2.2⟩) (fun e he => ⟨(mem_del he).1, fun b hb hb' => hs.apart e (mem_del he).1 (k, _) hm (mem_del he).2 b hb hb'⟩) hfr ?_ h4
        refine ⟨xs ++ news, by rw [List.length_append]; exact h1, ?_, fun y hy => hcn y⟩
        rw [List.flatMap_append]
        exact (hc.mono hG (fun _ h => h)).append (h3.mono hG (fun _ h => h))

end
end Go.Dl
