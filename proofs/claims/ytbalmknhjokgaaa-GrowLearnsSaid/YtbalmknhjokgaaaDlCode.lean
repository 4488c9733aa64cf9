/- The data level, seventh text: code, calls, a function's contract. -/
import Derived.Test.YtbalmknhjokgaaaDlOwn
set_option linter.unusedVariables false
namespace Go.Dl
open Go Go.RowKit

/-- What goes on from a state. -/
def Kx (K : Act → World → Prop) (x : Cx) (S : List (Nat × SV)) (O : List (Nat × Ob)) : Prop := ∀ a w, St x a w S O → K a w

section
variable {P : Program} {Q : Exit → Act → World → Prop} {x : Cx} {S S' : List (Nat × SV)} {O O' : List (Nat × Ob)}

/-! ### exits -/
theorem ex_kx {K : Act → World → Prop} (h : Kx K x S O) : Ex (Exit.then K Q) .normal x S O := h
theorem ex_te {K : Act → World → Prop} {id : Nat} (h : Ex Q (.exit id) x S O) : Ex (Exit.then K Q) (.exit id) x S O := h
theorem ex_tr {K : Act → World → Prop} (h : Ex Q .ret x S O) : Ex (Exit.then K Q) .ret x S O := h
theorem ex_bn {id : Nat} (h : Ex Q .normal x S O) : Ex (Exit.inBlock id Q) .normal x S O := h
theorem ex_br {id : Nat} (h : Ex Q .ret x S O) : Ex (Exit.inBlock id Q) .ret x S O := h
theorem ex_be {id : Nat} (h : Ex Q .normal x S O) : Ex (Exit.inBlock id Q) (.exit id) x S O := fun a w hs => by simpa [Exit.inBlock] using h a w hs
theorem ex_bo {id id' : Nat} (hne : (id' == id) = false) (h : Ex Q (.exit id') x S O) : Ex (Exit.inBlock id Q) (.exit id') x S O := fun a w hs => by
  have hne' : ¬ id' = id := by simpa using hne
  simpa [Exit.inBlock, hne'] using h a w hs

/-! ### states may be said otherwise -/
theorem St.of {a : Act} {w : World} (h : St x a w S O) (hs : ∀ e ∈ S', e ∈ S) (ho : ∀ e ∈ O', e ∈ O) : St x a w S' O' := by
  obtain ⟨G, V, h1, h2, h3, h4, h5⟩ := h
  exact ⟨G, V, h1.sub ho, h2, h3, h4.sub hs, h5⟩

def pickL {β : Type 1} (l : List β) (idx : List Nat) : List β := idx.filterMap (l[·]?)
theorem mem_pickL {β : Type 1} {l : List β} {idx : List Nat} {e : β} (h : e ∈ pickL l idx) : e ∈ l := by
  obtain ⟨i, _, h2⟩ := List.mem_filterMap.1 h
  exact List.mem_of_getElem? h2

theorem St.pick {a : Act} {w : World} (h : St x a w S O) (i j : List Nat) : St x a w (pickL S i) (pickL O j) := h.of (fun _ => mem_pickL) (fun _ => mem_pickL)

theorem nx_pick {ops : Array Oper} {rest : List Oper} (i j : List Nat) (hS : pickL S i = S') (hO : pickL O j = O') (h : Nx P ops Q rest x S' O') : Nx P ops Q rest x S O := fun a w hs => h a w (by have := hs.pick i j; rwa [hS, hO] at this)
theorem kx_pick {K : Act → World → Prop} (i j : List Nat) (hS : pickL S i = S') (hO : pickL O j = O') (h : Kx K x S' O') : Kx K x S O := fun a w hs => h a w (by have := hs.pick i j; rwa [hS, hO] at this)
theorem ex_pick {e : Exit} (i j : List Nat) (hS : pickL S i = S') (hO : pickL O j = O') (h : Ex Q e x S' O') : Ex Q e x S O := fun a w hs => h a w (by have := hs.pick i j; rwa [hS, hO] at this)
theorem cw_pick {c : Code} (i j : List Nat) (hS : pickL S i = S') (hO : pickL O j = O') (h : Cw P c Q x S' O') : Cw P c Q x S O := fun a w hs => h a w (by have := hs.pick i j; rwa [hS, hO] at this)

/-! ### code -/
theorem cw_seq {a b : Code} (h : ∀ K : Act → World → Prop, (∀ S' O', Cw P b Q x S' O' → Kx K x S' O') → Cw P a (Exit.then K Q) x S O) : Cw P (Code.seq a b) Q x S O := fun ac w hs =>
  wp_seq_k fun K hK => h K (fun S' O' hb a' w' hs' => hK _ _ (hb a' w' hs')) ac w hs
theorem cw_region {id : Nat} {l : List Oper} (h : Nx P l.toArray Q l x S O) : Cw P (Code.region id l.toArray false) Q x S O := fun a w hs => wp_region_lit (h a w hs)
theorem cw_cond {c : Operand} {b : Bool} {thn els : Code} (hc : Can S c (B b)) (ht : b = true → Cw P thn Q x S O) (hf : b = false → Cw P els Q x S O) : Cw P (Code.cond c thn els) Q x S O := fun a w hs => by
  obtain ⟨G, V, _, _, _, hS, _⟩ := id hs
  have h1 : a.eval c = .bool b := hc.eval hS
  exact wp_cond_split h1 (fun h => ht h a w hs) (fun h => hf h a w hs)
theorem cw_skip (h : Ex Q .normal x S O) : Cw P Code.skip Q x S O := fun a w hs => wp_skip (h a w hs)
theorem cw_exit {id : Nat} (h : Ex Q (.exit id) x S O) : Cw P (Code.exit id) Q x S O := fun a w hs => wp_exit (h a w hs)
theorem cw_ret (h : Ex Q .ret x S O) : Cw P Code.ret Q x S O := fun a w hs => wp_ret (h a w hs)
theorem cw_block {id : Nat} {c : Code} (h : Cw P c (Exit.inBlock id Q) x S O) : Cw P (Code.block id c) Q x S O := fun a w hs => wp_block (h a w hs)

theorem cw_loop {c : Code} {σ : Type} (F : Nat → σ → Prop) (Sv : σ → List (Nat × SV)) (Ov : σ → List (Nat × Ob)) (h0 : ∀ s, ¬ F 0 s)
    (step : ∀ n s, F (n + 1) s → ∀ K, (∀ s', F n s' → Kx K x (Sv s') (Ov s')) → Cw P c (Exit.then K Q) x (Sv s) (Ov s)) (n : Nat) (s : σ) (h : F n s) : Cw P (Code.loop c) Q x (Sv s) (Ov s) := fun a w hs => by
  refine wp_loop_rounds n ?_
  induction n generalizing s a w with
  | zero => exact (h0 s h).elim
  | succ n ih =>
    rw [rounds_succ]
    exact step n s h _ (fun s' h' a' w' hs' => ih s' h' a' w' hs') a w hs

/-! ### a function -/
def zipS : Nat → List SV → List (Nat × SV)
  | _, [] => []
  | i, s :: l => (i, s) :: zipS (i + 1) l

theorem slots_zip {N : Nat} {w : World} {G : Good} {V : Nat → Value} {dfs : List Deferred} : ∀ (l : List SV) (vs : List Value) (i : Nat) (a : Array Value), (∀ j, j < vs.length → a[i + j]? = vs[j]?) → i + l.length ≤ N → SV.holdsL w G V l vs → Slots N ⟨a, dfs⟩ w G V (zipS i l)
  | [], vs, i, a, _, _, _ => by intro e he; simp [zipS] at he
  | s :: l, vs, i, a, ha, hN, h => by
    obtain ⟨v, r, rfl, hs, hl⟩ := h
    intro e he
    rcases List.mem_cons.1 he with rfl | he
    · refine ⟨by simp at hN; omega, v, ?_, hs⟩
      have := ha 0 (by simp)
      simpa using this
    · refine slots_zip l r (i + 1) a (fun j hj => ?_) (by simp at hN; omega) hl e he
      have := ha (j + 1) (by simpa using hj)
      rw [show i + 1 + j = i + (j + 1) by omega]
      simpa using this

theorem holdsL_len {w : World} {G : Good} {V : Nat → Value} : ∀ {l : List SV} {vs : List Value}, SV.holdsL w G V l vs → vs.length = l.length
  | [], vs, h => by have : vs = [] := h; subst this; rfl
  | s :: l, vs, h => by
    obtain ⟨v, r, rfl, _, hl⟩ := h
    simp [holdsL_len hl]

def oldId (k : Nat) : Bool := decide (k < 50)

/-- What a call's end must be. -/
def Done (w : World) (G : Good) (V : Nat → Value) (I : List (Nat × Ob)) (res : SV) (O : List (Nat × Ob)) (e : Ending) (w' : World) : Prop :=
  ∃ v G' V', e = .returned v ∧ Sep (outer w G V I) w' G' V' O ∧ res.holds w' G' V' v ∧ ∀ e ∈ I, V' e.1 = V e.1

theorem fn_intro {f : FuncId} {fn : Func} {c : Code} {as : List SV} {I : List (Nat × Ob)} {res : SV} {N : Nat} (ids : List Nat) (hf : P.funcs[f]? = some fn) (hb : fn.body = some c) (hN : fn.ntmps = N) (hlen : as.length ≤ N) (hids : I.map Prod.fst = ids) (hold : I.all (fun e => oldId e.1) = true)
    (h : ∀ w G V, Cw P c (bodyPost P fn (Done w G V I res O)) ⟨w, blks w V I, G, N, V, ids, oldId⟩ (zipS 0 as) I) : Fn P f as I res O := by
  intro w G V vs hs hv
  refine calls_of_wp hf hb ?_
  rw [hN]
  have hl := holdsL_len hv
  refine h w G V _ w ⟨G, V, ⟨Upd.refl _ _, hs.good, fun _ h => h, fun _ h => .inl h, hs.obs, ?_, hs.apart, hs.gl⟩, rfl, ?_, ?_, fun _ _ => rfl⟩
  · intro e he b hb
    have h1 := hs.own e he b hb
    exact ⟨h1.1, h1.2.1, .inr ⟨⟨e, he, hb⟩, List.all_eq_true.1 hold e he⟩⟩
  · show (vs.toArray ++ Array.replicate (N - vs.toArray.size) undef).size = N
    simp; omega
  · refine slots_zip as vs 0 _ (fun j hj => ?_) (by show 0 + as.length ≤ N; omega) hv
    rw [Nat.zero_add, Array.getElem?_append_left (by simpa using hj)]
    simp

/-- the end of a function: the result's slots -/
theorem ex_done {w0 : World} {G0 : Good} {V0 : Nat → Value} {fn : Func} {I : List (Nat × Ob)} {res : SV} {N : Nat} {ids : List Nat} {e : Exit} (he : e = .ret ∨ e = .normal) (hids : I.map Prod.fst = ids)
    (hr : ∀ a w G V, Sep ⟨w0, blks w0 V0 I, G0, N, V0, ids, oldId⟩ w G V O → a.defers = [] → Slots N a w G V S → ∃ v, (results fn a.tmps).run P w = .ok v w ∧ res.holds w G V v) :
    Ex (bodyPost P fn (Done w0 G0 V0 I res O)) e ⟨w0, blks w0 V0 I, G0, N, V0, ids, oldId⟩ S O := by
  intro a w ⟨G, V, hs, hd, hN, hS, hI⟩
  obtain ⟨v, h1, h2⟩ := hr a w G V hs hd hS
  have h3 : Done w0 G0 V0 I res O (.returned v) w := by
    refine ⟨v, G, V, rfl, ⟨hs.up, hs.good, hs.g0, hs.g1, hs.obs, ?_, hs.apart, hs.gl⟩, h2, fun e he => hI e.1 (by rw [← hids]; exact List.mem_map_of_mem he)⟩
    intro e he b hb
    have h4 := hs.own e he b hb
    exact ⟨h4.1, h4.2.1, h4.2.2.imp (fun h => h) (fun h => ⟨h.1, rfl⟩)⟩
  rcases he with rfl | rfl
  · exact ⟨hd, v, h1, h3⟩
  · exact ⟨hd, v, h1, h3⟩

theorem res1 {fn : Func} {s : Nat} {sv : SV} (hr : fn.results = #[.tmp s]) (hS : Can S (.tmp s) sv) {N : Nat} (a : Act) (w : World) (G : Good) (V : Nat → Value) (hs : Slots N a w G V S) : ∃ v, (results fn a.tmps).run P w = .ok v w ∧ sv.holds w G V v :=
  ⟨_, results_tmp hr a.tmps P w, hS.eval hs⟩
theorem res0 {fn : Func} (hr : fn.results = #[]) {N : Nat} (a : Act) (w : World) (G : Good) (V : Nat → Value) (hs : Slots N a w G V S) : ∃ v, (results fn a.tmps).run P w = .ok v w ∧ (SV.tup []).holds w G V v :=
  ⟨_, results_none hr a.tmps P w, [], rfl, rfl⟩

/-- several results, each in a slot or in a variable -/
inductive ResL (P : Program) (S : List (Nat × SV)) (O : List (Nat × Ob)) : List ResultVar → List SV → Prop
  | nil : ResL P S O [] []
  | tmp {s : Nat} {sv : SV} {rs : List ResultVar} {l : List SV} (h : Can S (.tmp s) sv) (r : ResL P S O rs l) : ResL P S O (.tmp s :: rs) (sv :: l)
  | ptr {s t : Nat} {its : List It} {rs : List ResultVar} {l : List SV} (h : Can S (.tmp s) (.ptr its)) (ha : aggB P t = some true) (hn : sizeT P t = some its.length) (r : ResL P S O rs l) : ResL P S O (.cell s t :: rs) (.agg its :: l)
  | var {s t k t' : Nat} {its : List It} {rs : List ResultVar} {l : List SV} (h : Can S (.tmp s) (.ref k)) (i : Nat) (hk : O[i]? = some (k, .var t' (its.map SV.c))) (ha : aggB P t = some true) (hn : sizeT P t = some its.length) (r : ResL P S O rs l) : ResL P S O (.cell s t :: rs) (.agg its :: l)

def resOf (tmps : Array Value) : ResultVar → Sem Value
  | .tmp t => pure (tmps.getD t undef)
  | .cell a t => do loadVar t (← asAddr (tmps.getD a undef))

theorem run_resL {rs : List ResultVar} {l : List SV} (h : ResL P S O rs l) {a : Act} {w : World} {G : Good} {V : Nat → Value} (hs : Sep x w G V O) {N : Nat} (hS : Slots N a w G V S) : ∃ vs, (rs.mapM (resOf a.tmps)).run P w = .ok vs w ∧ SV.holdsL w G V l vs := by
  induction h with
  | nil => exact ⟨[], rfl, rfl⟩
  | @tmp s sv rs l h r ih =>
    obtain ⟨vs, h1, h2⟩ := ih
    exact ⟨_ :: vs, by simp only [List.mapM_cons, resOf, Sem.run_bind, Sem.run_pure, Result.andThen_ok, h1]; rfl, _, vs, rfl, h.eval hS, h2⟩
  | @ptr s t its rs l h ha hn r ih =>
    obtain ⟨vs, h1, h2⟩ := ih
    obtain ⟨b, off, hv, hb, hc⟩ := h.eval hS
    have hv' : a.tmps.getD s undef = .pointer (some ⟨b, off, none⟩) := hv
    obtain ⟨us, h3, h4, h5⟩ := hc.list
    have h6 := run_loadAgg (P := P) ha hn h3 h4
    exact ⟨.agg us.toArray :: vs, by simp [List.mapM_cons, resOf, hv', asAddr, h6, h1], _, vs, rfl, ⟨us, rfl, h5⟩, h2⟩
  | @var s t k t' its rs l h i hk ha hn r ih =>
    obtain ⟨vs, h1, h2⟩ := ih
    have hv : a.tmps.getD s undef = V k := h.eval hS
    obtain ⟨b, cur, hv', hh, hcs⟩ := hs.obs _ (List.mem_of_getElem? hk)
    simp only at hv'
    have hcr := cellsSV_rd hcs
    have hlen : cur.toList.length = its.length := hcr.length
    have h6 := run_loadAgg (P := P) ha hn (w := w) (b := b) (off := 0) (us := cur.toList) hlen (fun j hj => by
      rw [Nat.zero_add, cell_of_row w b j cur t' (0, 0) hh]; simp)
    simp only [Array.toArray_toList] at h6
    exact ⟨.agg cur :: vs, by simp [List.mapM_cons, resOf, hv, hv', asAddr, h6, h1], _, vs, rfl, ⟨cur.toList, by simp, hcr⟩, h2⟩

theorem run_results {fn : Func} {rs : List ResultVar} (hr : fn.results = rs.toArray) {tmps : Array Value} {w : World} {vs : List Value} (h : (rs.mapM (resOf tmps)).run P w = .ok vs w) :
    (results fn tmps).run P w = .ok (if h : vs.toArray.size = 1 then vs.toArray[0] else .tuple vs.toArray) w := by
  unfold results
  rw [hr]
  simp only [Sem.run_bind, List.mapM_toArray, Sem.run_map]
  change (((Sem.run P (List.mapM (resOf tmps) rs) w).andThen fun a w' => Result.ok a.toArray w').andThen fun a w' => Sem.run P (pure (if h : a.size = 1 then a[0] else Value.tuple a)) w') = _
  rw [h]
  rfl

theorem resM {fn : Func} {rs : List ResultVar} {s1 s2 : SV} {l : List SV} (hr : fn.results = rs.toArray) (h : ResL P S O rs (s1 :: s2 :: l)) (a : Act) (w : World) (G : Good) (V : Nat → Value) (hs : Sep x w G V O) {N : Nat} (hS : Slots N a w G V S) : ∃ v, (results fn a.tmps).run P w = .ok v w ∧ (SV.tup (s1 :: s2 :: l)).holds w G V v := by
  obtain ⟨vs, h1, h2⟩ := run_resL h hs hS
  refine ⟨_, run_results hr h1, ?_⟩
  obtain ⟨v1, r1, rfl, h3, v2, r2, rfl, h4, h5⟩ := h2
  exact ⟨v1 :: v2 :: r2, by simp, v1, _, rfl, h3, v2, r2, rfl, h4, h5⟩
theorem resC {fn : Func} {rs : List ResultVar} {s1 : SV} (hr : fn.results = rs.toArray) (h : ResL P S O rs [s1]) (a : Act) (w : World) (G : Good) (V : Nat → Value) (hs : Sep x w G V O) {N : Nat} (hS : Slots N a w G V S) : ∃ v, (results fn a.tmps).run P w = .ok v w ∧ s1.holds w G V v := by
  obtain ⟨vs, h1, h2⟩ := run_resL h hs hS
  obtain ⟨v1, r1, rfl, h3, h4⟩ := h2
  have h5 : r1 = [] := h4
  subst h5
  exact ⟨v1, run_results hr h1, h3⟩

/-! ### data that nobody writes any more -/
def unref (k : Nat) (it : It) : SV → SV
  | .ref j => if j == k then .c it else .ref j
  | s => s
def unrefP (k : Nat) (its : List It) : SV → SV
  | .ref j => if j == k then .ptr its else .ref j
  | .pt j off => if j == k then .ptr (its.drop off) else .pt j off
  | s => s
def mapS (f : SV → SV) (S : List (Nat × SV)) : List (Nat × SV) := S.map fun e => (e.1, f e.2)
def mapO (f : SV → SV) (O : List (Nat × Ob)) : List (Nat × Ob) := O.map fun e => (e.1, match e.2 with | .var t cs => .var t (cs.map f) | o => o)

theorem mapO_foot {f : SV → SV} {w : World} {v : Value} {o : Ob} {b : Nat} (h : (match o with | .var t cs => Ob.var t (cs.map f) | o => o).foot w v b) : o.foot w v b := by
  cases o <;> exact h

/-- names that stand alone in a slot (not inside a tuple or under a condition) are said otherwise: what that asks. -/
theorem Sep.freeze {w : World} {G : Good} {V : Nat → Value} (hs : Sep x w G V O) {k : Nat} {ob : Ob} (hk : (k, ob) ∈ O) (hold : x.old k = false) : Sep x w (fun b => G b ∨ ob.foot w (V k) b) V (del k O) := by
  have hup : Upd (fun _ => False) w w := Upd.refl _ _
  refine ⟨hs.up, ?_, fun b hb => .inl (hs.g0 b hb), ?_, ?_, ?_, ?_, hs.gl.mono (fun _ _ => rfl) (fun _ h => .inl h)⟩
  · intro b hb
    rcases hb with hb | hb
    · exact hs.good b hb
    · exact (hs.own _ hk b hb).1
  · intro b hb
    rcases hb with hb | hb
    · exact hs.g1 b hb
    · rcases (hs.own _ hk b hb).2.2 with h | h
      · exact .inr h
      · simp only at h; rw [hold] at h; exact absurd h.2 (by simp)
  · intro e he
    exact Ob.mono (p := allp) (fun _ _ => rfl) (fun _ h => .inl h) (fun _ _ => rfl) e.2 (Ob.ok_all _) (fun _ _ => rfl) (hs.obs e (mem_del he).1)
  · intro e he b hb
    have h1 := hs.own e (mem_del he).1 b hb
    refine ⟨h1.1, ?_, h1.2.2⟩
    intro h
    rcases h with h | h
    · exact h1.2.1 h
    · exact hs.apart e (mem_del he).1 (k, ob) hk (mem_del he).2 b hb h
  · intro e he e' he'
    exact hs.apart e (mem_del he).1 e' (mem_del he').1

theorem row_frozen {w : World} {G : Good} {t : TypeId} {n : Nat} {α : Type} {c : α → List It} {l : List α} {v : Value} (hcn : ∀ y, (c y).length = n) (h : (Ob.row t n c l).holds w G (fun _ => undef) v) : (rSl n c).rd w (fun b => G b ∨ blkR v = some b) v l := by
  obtain ⟨xs, ho, hc, hn⟩ := h
  rcases ownsRow_cases ho with ⟨a0, h1, h2, _⟩ | ⟨b, cap, cur, h1, h2, h3, h4, h5, h6, h7, h8⟩
  · have : l = [] := List.eq_nil_of_length_eq_zero h2
    subst this
    exact ⟨a0, 0, h1, Nat.le_refl _, fun h => absurd rfl h⟩
  · refine ⟨_, cap, h1, h2, fun _ => ⟨b, 0, rfl, .inr (by rw [h1]; exact blkR_mk h8), ?_⟩⟩
    exact rows_at hcn h4 (hc.mono (fun _ _ => rfl) (fun _ h => .inl h)) (row_len_at (c := c) h5 h2 h6 h7)

/-- the row k is data from here on -/
theorem St.freezeRow {a : Act} {w : World} (h : St x a w S O) {k : Nat} {t n : Nat} {α : Type} {c : α → List It} {l : List α} (i : Nat) (hk : O[i]? = some (k, .row t n c l)) (hold : x.old k = false) (hcn : ∀ y, (c y).length = n) : St x a w (mapS (unref k (iSL n c l)) S) (mapO (unref k (iSL n c l)) (del k O)) := by
  obtain ⟨G, V, hs, hd, hN, hS, hI⟩ := h
  have hm := List.mem_of_getElem? hk
  have hob := hs.obs _ hm
  have hfr := row_frozen hcn (v := V k) (show (Ob.row t n c l).holds w G (fun _ => undef) (V k) from hob)
  have hz := hs.freeze hm hold
  have key : ∀ (s : SV) (v : Value), s.holds w (fun b => G b ∨ blkR (V k) = some b) V v → (unref k (iSL n c l) s).holds w (fun b => G b ∨ blkR (V k) = some b) V v := by
    intro s v hv
    cases s <;> try exact hv
    rename_i j
    simp only [unref]
    split
    · rename_i hj
      have hj' : j = k := by simpa using hj
      subst hj'
      have hv' : v = V j := hv
      rw [hv']; exact hfr
    · exact hv
  refine ⟨_, V, ⟨hz.up, hz.good, hz.g0, hz.g1, ?_, ?_, ?_, hz.gl⟩, hd, hN, ?_, hI⟩
  · intro e he
    obtain ⟨e', he', rfl⟩ := List.mem_map.1 he
    have h1 := hz.obs e' he'
    obtain ⟨j, o⟩ := e'
    cases o with
    | row => exact h1
    | deep => exact h1
    | var t cs =>
      obtain ⟨b, cur, h2, h3, h4⟩ := h1
      refine ⟨b, cur, h2, h3, ?_⟩
      change cellsSV w _ V cs cur.toList at h4
      change cellsSV w _ V (cs.map _) cur.toList
      generalize cur.toList = us at h4
      clear h3 h2 he hk he'
      induction cs generalizing us with
      | nil => exact h4
      | cons s cs ih =>
        obtain ⟨u, r, rfl, h5, h6, h7⟩ := h4
        exact ⟨u, r, rfl, key s u h5, h6, ih r h7⟩
  · intro e he b hb
    obtain ⟨e', he', rfl⟩ := List.mem_map.1 he
    exact hz.own e' he' b (mapO_foot hb)
  · intro e he e2 he2 hne b hb
    obtain ⟨e', he', rfl⟩ := List.mem_map.1 he
    obtain ⟨e2', he2', rfl⟩ := List.mem_map.1 he2
    exact fun hb' => hz.apart e' he' e2' he2' hne b (mapO_foot hb) (mapO_foot hb')
  · intro e he
    obtain ⟨e', he', rfl⟩ := List.mem_map.1 he
    obtain ⟨h1, v, h2, h3⟩ := hS e' he'
    exact ⟨h1, v, h2, key _ _ (SV.holds_mono (p := allp) (fun _ _ => rfl) (fun _ h => .inl h) (fun _ _ => rfl) _ _ (SV.ok_all _) h3)⟩

/-- the variable k is data from here on -/
theorem St.freezeVar {a : Act} {w : World} (h : St x a w S O) {k : Nat} {t : Nat} {its : List It} (i : Nat) (hk : O[i]? = some (k, .var t (its.map SV.c))) (hold : x.old k = false) : St x a w (mapS (unrefP k its) S) (mapO (unrefP k its) (del k O)) := by
  obtain ⟨G, V, hs, hd, hN, hS, hI⟩ := h
  have hm := List.mem_of_getElem? hk
  obtain ⟨b, cur, hv, hh, hcs⟩ := hs.obs _ hm
  simp only at hv
  have hz := hs.freeze hm hold
  have hca : cellsAt w (fun b => G b ∨ blk (V k) = some b) b 0 its := by
    refine ((cellsSV_rd hcs).mono (fun _ _ => rfl) (fun _ h => .inl h)).at hh ?_
    intro j hj; simp
  have key : ∀ (s : SV) (v : Value), s.holds w (fun b => G b ∨ blk (V k) = some b) V v → (unrefP k its s).holds w (fun b => G b ∨ blk (V k) = some b) V v := by
    intro s v hvv
    cases s <;> try exact hvv
    · rename_i j
      simp only [unrefP]
      split
      · rename_i hj
        have hj' : j = k := by simpa using hj
        subst hj'
        have hv' : v = V j := hvv
        exact ⟨b, 0, by rw [hv', hv], .inr (by rw [hv]; rfl), hca⟩
      · exact hvv
    · rename_i j off
      simp only [unrefP]
      split
      · rename_i hj
        have hj' : j = k := by simpa using hj
        subst hj'
        obtain ⟨b', hb', hv'⟩ := hvv
        rw [hv] at hb'
        simp only [blk, Option.some.injEq] at hb'
        subst hb'
        refine ⟨b, off, hv', .inr (by rw [hv]; rfl), ?_⟩
        intro m hm
        obtain ⟨u, h1, h2⟩ := hca (off + m) (by simp at hm; omega)
        exact ⟨u, by rw [← h1, Nat.zero_add], by simpa using h2⟩
      · exact hvv
  refine ⟨_, V, ⟨hz.up, hz.good, hz.g0, hz.g1, ?_, ?_, ?_, hz.gl⟩, hd, hN, ?_, hI⟩
  · intro e he
    obtain ⟨e', he', rfl⟩ := List.mem_map.1 he
    have h1 := hz.obs e' he'
    obtain ⟨j, o⟩ := e'
    cases o with
    | row => exact h1
    | deep => exact h1
    | var t cs =>
      obtain ⟨b, cur, h2, h3, h4⟩ := h1
      refine ⟨b, cur, h2, h3, ?_⟩
      change cellsSV w _ V cs cur.toList at h4
      change cellsSV w _ V (cs.map _) cur.toList
      generalize cur.toList = us at h4
      clear h3 h2 he hk he'
      induction cs generalizing us with
      | nil => exact h4
      | cons s cs ih =>
        obtain ⟨u, r, rfl, h5, h6, h7⟩ := h4
        exact ⟨u, r, rfl, key s u h5, h6, ih r h7⟩
  · intro e he b hb
    obtain ⟨e', he', rfl⟩ := List.mem_map.1 he
    exact hz.own e' he' b (mapO_foot hb)
  · intro e he e2 he2 hne b hb
    obtain ⟨e', he', rfl⟩ := List.mem_map.1 he
    obtain ⟨e2', he2', rfl⟩ := List.mem_map.1 he2
    exact fun hb' => hz.apart e' he' e2' he2' hne b (mapO_foot hb) (mapO_foot hb')
  · intro e he
    obtain ⟨e', he', rfl⟩ := List.mem_map.1 he
    obtain ⟨h1, v, h2, h3⟩ := hS e' he'
    exact ⟨h1, v, h2, key _ _ (SV.holds_mono (p := allp) (fun _ _ => rfl) (fun _ h => .inl h) (fun _ _ => rfl) _ _ (SV.ok_all _) h3)⟩

theorem nx_freezeRow {ops : Array Oper} {rest : List Oper} {k : Nat} {t n : Nat} {α : Type} {c : α → List It} {l : List α} (i : Nat) (hk : O[i]? = some (k, .row t n c l)) (hold : x.old k = false) (hcn : ∀ y, (c y).length = n) (hS : mapS (unref k (iSL n c l)) S = S') (hO : mapO (unref k (iSL n c l)) (del k O) = O') (h : Nx P ops Q rest x S' O') : Nx P ops Q rest x S O := fun a w hs => h a w (by have := hs.freezeRow i hk hold hcn; rwa [hS, hO] at this)
theorem nx_freezeVar {ops : Array Oper} {rest : List Oper} {k : Nat} {t : Nat} {its : List It} (i : Nat) (hk : O[i]? = some (k, .var t (its.map SV.c))) (hold : x.old k = false) (hS : mapS (unrefP k its) S = S') (hO : mapO (unrefP k its) (del k O) = O') (h : Nx P ops Q rest x S' O') : Nx P ops Q rest x S O := fun a w hs => h a w (by have := hs.freezeVar i hk hold; rwa [hS, hO] at this)
theorem ex_freezeRow {e : Exit} {k : Nat} {t n : Nat} {α : Type} {c : α → List It} {l : List α} (i : Nat) (hk : O[i]? = some (k, .row t n c l)) (hold : x.old k = false) (hcn : ∀ y, (c y).length = n) (hS : mapS (unref k (iSL n c l)) S = S') (hO : mapO (unref k (iSL n c l)) (del k O) = O') (h : Ex Q e x S' O') : Ex Q e x S O := fun a w hs => h a w (by have := hs.freezeRow i hk hold hcn; rwa [hS, hO] at this)
theorem cw_freezeRow {cd : Code} {k : Nat} {t n : Nat} {α : Type} {c : α → List It} {l : List α} (i : Nat) (hk : O[i]? = some (k, .row t n c l)) (hold : x.old k = false) (hcn : ∀ y, (c y).length = n) (hS : mapS (unref k (iSL n c l)) S = S') (hO : mapO (unref k (iSL n c l)) (del k O) = O') (h : Cw P cd Q x S' O') : Cw P cd Q x S O := fun a w hs => h a w (by have := hs.freezeRow i hk hold hcn; rwa [hS, hO] at this)
theorem kx_freezeRow {K : Act → World → Prop} {k : Nat} {t n : Nat} {α : Type} {c : α → List It} {l : List α} (i : Nat) (hk : O[i]? = some (k, .row t n c l)) (hold : x.old k = false) (hcn : ∀ y, (c y).length = n) (hS : mapS (unref k (iSL n c l)) S = S') (hO : mapO (unref k (iSL n c l)) (del k O) = O') (h : Kx K x S' O') : Kx K x S O := fun a w hs => h a w (by have := hs.freezeRow i hk hold hcn; rwa [hS, hO] at this)

/-! ### calls -/
inductive CanL (S : List (Nat × SV)) : List Operand → List SV → Prop
  | nil : CanL S [] []
  | cons {e : Operand} {sv : SV} {es : List Operand} {l : List SV} (h : Can S e sv) (r : CanL S es l) : CanL S (e :: es) (sv :: l)

theorem CanL.eval {es : List Operand} {l : List SV} (h : CanL S es l) {N : Nat} {a : Act} {w : World} {G : Good} {V : Nat → Value} (hS : Slots N a w G V S) : SV.holdsL w G V l (es.map a.eval) := by
  induction h with
  | nil => rfl
  | cons h r ih => exact ⟨_, _, rfl, h.eval hS, ih⟩

def callable (P : Program) (f : FuncId) : Bool := match P.funcs[f]? with
  | some fn => fn.body.isSome && !(fn.name == "runtime.NumGoroutine")
  | none => false

theorem run_call {f : FuncId} (hc : callable P f = true) {es : List Operand} {ats : Array TypeId} {a : Act} {w : World} {d : Option Nat} {ty : TypeId} {pos : String} {aft : Array Edge} {g : Option (Nat × Bool)} :
    (execOp a.eval ⟨d, .call { callee := .value (.func f), args := es.toArray, argTypes := ats }, ty, pos, aft, g⟩).run P w = .ok (.enter f (es.map a.eval).toArray) w := by
  unfold callable at hc
  cases hf : P.funcs[f]? with
  | none => simp [hf] at hc
  | some fn =>
    simp only [hf, Bool.and_eq_true, Bool.not_eq_true', Option.isSome_iff_exists] at hc
    obtain ⟨⟨b, hb⟩, hn⟩ := hc
    have hn' : (fn.name == "runtime.NumGoroutine") = false := hn
    simp [execOp, resolve, Deferred.ofValue, show a.eval (.func f) = .func (.func f) #[] #[] from rfl, invoke, callFunc, hf, hb, hn', -beq_eq_false_iff_ne, -beq_iff_eq]

def hasId (O : List (Nat × Ob)) (k : Nat) : Bool := O.any fun e => e.1 == k
/-- the objects of O whose names are not in I -/
def butO (I O : List (Nat × Ob)) : List (Nat × Ob) := O.filter fun e => !(hasId I e.1)
/-- names that a call does not turn: all but those it makes -/
def keepP (I R : List (Nat × Ob)) : Nat → Bool := fun k => hasId I k || !(hasId R k)

/-- A CALL BY ITS CONTRACT. -/
theorem op_callG {f : FuncId} {o : Oper} {as : List SV} {I R : List (Nat × Ob)} {res : SV}
    (hf : Fn P f as I res R) (hrun : ∀ a w G V, Slots x.N a w G V S → ∃ vs : List Value, (execOp a.eval o).run P w = .ok (.enter f vs.toArray) w ∧ SV.holdsL w G V as vs) (idx : List Nat) (hI : pickL O idx = I)
    (h1 : (butO I O).all (fun e => !(hasId R e.1) && e.2.ok (keepP I R)) = true) (h2 : R.all (fun e => e.2.ok (hasId R)) = true) (h3 : res.ok (hasId R) = true)
    (h4 : (I.all (fun e => !(x.old e.1)) || R.all (fun e => x.old e.1)) = true) (h5 : I.all (fun e => hasId R e.1 || true) = true) :
    OpX P x S O o res (R ++ butO I O) (keepP I R) := by
  intro a w G V hs _ hS
  have hIO : ∀ e ∈ I, e ∈ O := fun e he => by rw [← hI] at he; exact mem_pickL he
  have hsI : Sep (outer w G V I) w G V I := by
    refine ⟨Upd.refl _ _, hs.good, fun _ h => h, fun _ h => .inl h, fun e he => hs.obs e (hIO e he), ?_, fun e he e' he' => hs.apart e (hIO e he) e' (hIO e' he'), hs.gl⟩
    intro e he b hb
    have := hs.own e (hIO e he) b hb
    exact ⟨this.1, this.2.1, .inr ⟨⟨e, he, hb⟩, rfl⟩⟩
  obtain ⟨vs, hr0, hvs⟩ := hrun a w G V hS
  refine Yields.enter hr0 ((hf w G V vs hsI hvs).mono ?_)
  rintro e w' ⟨v, G', V', rfl, hs', hres, hV'⟩
  obtain ⟨V2, hRV, hV0⟩ : ∃ V2 : Nat → Value, (∀ k, hasId R k = true → V2 k = V' k) ∧ (∀ k, hasId R k = false → V2 k = V k) := ⟨fun k => if hasId R k then V' k else V k, fun k hk => by simp [hk], fun k hk => by simp [hk]⟩
  have hKV : ∀ k, keepP I R k = true → V2 k = V k := by
    intro k hk
    simp only [keepP, Bool.or_eq_true, Bool.not_eq_true'] at hk
    cases hr : hasId R k with
    | true =>
      rcases hk with hk | hk
      · simp only [hasId, List.any_eq_true, beq_iff_eq] at hk
        obtain ⟨e, he, rfl⟩ := hk
        rw [hRV _ hr, hV' e he]
      · rw [hr] at hk; simp at hk
    | false => exact hV0 k hr
  refine ⟨v, rfl, G', V2, ?_, hs'.g0, ?_, hKV, ?_⟩
  · have hup' : Upd (blks w V I) w w' := hs'.up
    have hsz := hup'.size
    have hw0 := hs.up.size
    have hrest : ∀ e ∈ butO I O, e ∈ O ∧ hasId I e.1 = false ∧ hasId R e.1 = false ∧ e.2.ok (keepP I R) = true := by
      intro e he
      have h6 := List.all_eq_true.1 h1 e he
      obtain ⟨h7, h8⟩ := List.mem_filter.1 he
      simp only [Bool.and_eq_true, Bool.not_eq_true'] at h6 h8
      exact ⟨h7, h8, h6.1, h6.2⟩
    have hne : ∀ e ∈ butO I O, ∀ b, e.2.foot w (V e.1) b → ¬ blks w V I b := by
      intro e he b hb ⟨e', he', hb'⟩
      obtain ⟨h7, h8, _, _⟩ := hrest e he
      refine hs.apart e h7 e' (hIO e' he') ?_ b hb hb'
      intro h9
      rw [h9] at h8
      simp only [hasId, List.any_eq_false, beq_iff_eq] at h8
      exact h8 e' he' rfl
    have hfk : ∀ e ∈ butO I O, ∀ b, e.2.foot w' (V e.1) b → e.2.foot w (V e.1) b := by
      intro e he
      obtain ⟨h7, _, _, _⟩ := hrest e he
      exact Ob.fkeep e.2 (fun b hb => hup'.block b (hs.own e h7 b hb).1 (hne e he b hb)) (hs.obs e h7)
    have hR : ∀ e ∈ R, hasId R e.1 = true := fun e he => by simp only [hasId, List.any_eq_true, beq_iff_eq]; exact ⟨e, he, rfl⟩
    have hI' : ∀ b, blks w V I b → b < w.heap.size ∧ ¬ G b ∧ (x.w0.heap.size ≤ b ∨ (x.E b ∧ ∃ e ∈ I, x.old e.1 = true)) := by
      rintro b ⟨e, he, hb⟩
      have := hs.own e (hIO e he) b hb
      exact ⟨this.1, this.2.1, this.2.2.imp (fun h => h) (fun h => ⟨h.1, e, he, h.2⟩)⟩
    refine ⟨hs.up.trans hup' ?_, hs'.good, fun k hk => hs'.g0 k (hs.g0 k hk), ?_, ?_, ?_, ?_, hs'.gl⟩
    · intro i hi hlt
      rcases (hI' i hi).2.2 with h | h
      · omega
      · exact h.1
    · intro k hk
      rcases hs'.g1 k hk with h | h
      · exact hs.g1 k h
      · have h' : w.heap.size ≤ k := h
        right; omega
    · intro e he
      rcases List.mem_append.1 he with he | he
      · rw [hRV _ (hR e he)]
        exact Ob.mono (p := hasId R) (fun _ _ => rfl) (fun _ h => h) hRV e.2 (List.all_eq_true.1 h2 e he) (fun _ _ => rfl) (hs'.obs e he)
      · obtain ⟨h7, h8, h9, h10⟩ := hrest e he
        have hke : keepP I R e.1 = true := by simp [keepP, h9]
        rw [hKV _ hke]
        refine Ob.mono (p := keepP I R) ?_ hs'.g0 hKV e.2 h10 ?_ (hs.obs e h7)
        · intro k hk
          exact hup'.block k (hs.good k hk) (fun hb => (hI' k hb).2.1 hk)
        · intro b hb
          exact hup'.block b (hs.own e h7 b hb).1 (hne e he b hb)
    · intro e he b hb
      rcases List.mem_append.1 he with he | he
      · rw [hRV _ (hR e he)] at hb
        have h6 := hs'.own e he b hb
        refine ⟨h6.1, h6.2.1, ?_⟩
        rcases h6.2.2 with h | h
        · have h' : w.heap.size ≤ b := h
          left; omega
        · rcases (hI' b h.1).2.2 with h7 | ⟨h7, e', he', h8⟩
          · exact .inl h7
          · right
            refine ⟨h7, ?_⟩
            simp only [Bool.or_eq_true] at h4
            rcases h4 with h4 | h4
            · have := List.all_eq_true.1 h4 e' he'
              rw [h8] at this; simp at this
            · exact List.all_eq_true.1 h4 e he
      · obtain ⟨h7, h8, h9, h10⟩ := hrest e he
        rw [hV0 _ h9] at hb
        have hb := hfk e he b hb
        have h11 := hs.own e h7 b hb
        refine ⟨by omega, ?_, h11.2.2⟩
        intro hg
        rcases hs'.g1 b hg with h | h
        · exact h11.2.1 h
        · have h' : w.heap.size ≤ b := h
          omega
    · intro e he e' he' hne' b hb
      rcases List.mem_append.1 he with he | he
      · rw [hRV _ (hR e he)] at hb
        rcases List.mem_append.1 he' with he' | he'
        · rw [hRV _ (hR e' he')]
          exact hs'.apart e he e' he' hne' b hb
        · obtain ⟨h7, h8, h9, h10⟩ := hrest e' he'
          rw [hV0 _ h9]
          intro hb'
          have hb' := hfk e' he' b hb'
          rcases (hs'.own e he b hb).2.2 with h | h
          · have h' : w.heap.size ≤ b := h
            have := (hs.own e' h7 b hb').1
            omega
          · exact hne e' he' b hb' h.1
      · obtain ⟨h7, h8, h9, h10⟩ := hrest e he
        rw [hV0 _ h9] at hb
        have hb := hfk e he b hb
        rcases List.mem_append.1 he' with he' | he'
        · rw [hRV _ (hR e' he')]
          intro hb'
          rcases (hs'.own e' he' b hb').2.2 with h | h
          · have h' : w.heap.size ≤ b := h
            have := (hs.own e h7 b hb).1
            omega
          · exact hne e he b hb h.1
        · obtain ⟨h7', h8', h9', h10'⟩ := hrest e' he'
          rw [hV0 _ h9']
          exact fun hb' => hs.apart e h7 e' h7' hne' b hb (hfk e' he' b hb')
  · intro k hk
    exact hs'.up.block k (hs.good k hk) (fun ⟨e, he, hb⟩ => (hs.own e (hIO e he) k hb).2.1 hk)
  · exact SV.holds_mono (p := hasId R) (fun _ _ => rfl) (fun _ h => h) hRV res v h3 hres

theorem op_call {f : FuncId} {es : List Operand} {ats : Array TypeId} {as : List SV} {I R : List (Nat × Ob)} {res : SV} {d : Option Nat} {ty : TypeId} {pos : String} {aft : Array Edge} {g : Option (Nat × Bool)}
    (hf : Fn P f as I res R) (hc : callable P f = true) (ha : CanL S es as) (idx : List Nat) (hI : pickL O idx = I)
    (h1 : (butO I O).all (fun e => !(hasId R e.1) && e.2.ok (keepP I R)) = true) (h2 : R.all (fun e => e.2.ok (hasId R)) = true) (h3 : res.ok (hasId R) = true)
    (h4 : (I.all (fun e => !(x.old e.1)) || R.all (fun e => x.old e.1)) = true) (h5 : I.all (fun e => hasId R e.1 || true) = true) :
    OpX P x S O ⟨d, .call { callee := .value (.func f), args := es.toArray, argTypes := ats }, ty, pos, aft, g⟩ res (R ++ butO I O) (keepP I R) :=
  op_callG hf (fun a w G V hS => ⟨_, run_call hc, ha.eval hS⟩) idx hI h1 h2 h3 h4 h5
end
end Go.Dl
