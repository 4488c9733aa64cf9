/- The data level, ninth text: more operations; names that are turned. -/
import Derived.Test.YtbalmknhjokgaaaDlDraw
import Derived.WalkLawsBesides
set_option linter.unusedVariables false
namespace Go.Dl
open Go Go.RowKit

section
variable {P : Program} {ops : Array Oper} {Q : Exit → Act → World → Prop} {rest : List Oper} {x : Cx} {S S' : List (Nat × SV)} {O O' : List (Nat × Ob)} {d : Option Nat} {ty : TypeId} {pos : String} {aft : Array Edge} {g : Option (Nat × Bool)}

/-- an operation that turns no name -/
theorem nx_o {d : Nat} {op : Op} {ty : TypeId} {pos : String} {aft : Array Edge} {sv : SV} (ho : OpX P x S O ⟨some d, op, ty, pos, aft, none⟩ sv O' allp) (hk : chk x.N d S = true)
    (k : Nx P ops Q rest x ((d, sv) :: S) O') : Nx P ops Q (⟨some d, op, ty, pos, aft, none⟩ :: rest) x S O :=
  nx_op ho (by rw [hk, okS_all]; exact List.all_eq_true.2 fun _ _ => rfl) k
theorem nx_o0 {op : Op} {ty : TypeId} {pos : String} {aft : Array Edge} {sv : SV} (ho : OpX P x S O ⟨none, op, ty, pos, aft, none⟩ sv O' allp)
    (k : Nx P ops Q rest x S O') : Nx P ops Q (⟨none, op, ty, pos, aft, none⟩ :: rest) x S O :=
  nx_op0 ho (by rw [okS_all]; exact List.all_eq_true.2 fun _ _ => rfl) k
theorem nx_g {d : Nat} {op : Op} {ty : TypeId} {pos : String} {aft : Array Edge} {gd : Option (Nat × Bool)} {sv : SV} (ho : OpY P ops x S O ⟨some d, op, ty, pos, aft, gd⟩ sv O' allp) (hk : chk x.N d S = true)
    (k : Nx P ops Q rest x ((d, sv) :: S) O') : Nx P ops Q (⟨some d, op, ty, pos, aft, gd⟩ :: rest) x S O :=
  nx_gop ho (by rw [hk, okS_all]; exact List.all_eq_true.2 fun _ _ => rfl) k
/-- an operation behind which only the entries idx stay -/
theorem nx_k {d : Nat} {op : Op} {ty : TypeId} {pos : String} {aft : Array Edge} {sv : SV} {p : Nat → Bool} (idx : List Nat) (ho : OpX P x S O ⟨some d, op, ty, pos, aft, none⟩ sv O' p) (hp : pickL S idx = S') (hk : (chk x.N d S' && okS p S' && x.ids.all p) = true)
    (k : Nx P ops Q rest x ((d, sv) :: S') O') : Nx P ops Q (⟨some d, op, ty, pos, aft, none⟩ :: rest) x S O := by
  subst hp
  intro a w ⟨G, V, hs, hd, hN, hS, hI⟩
  simp only [Bool.and_eq_true] at hk
  refine wpList_plain rfl fun K hK => ?_
  refine (ho a w G V hs hd hS).wp fun v w' ⟨G', V', hs', hg, hw, hV, hv⟩ => hK _ _ ?_
  exact k _ _ ⟨G', V', hs', by show (Act.put a (some d) v).defers = []; exact hd, by show (a.tmps.setIfInBounds d v).size = _; simpa using hN, (hS.sub fun _ => mem_pickL).put hN hk.1.1 hk.1.2 hw hg hV hv, ids_keep hI hk.2 hV⟩

/-! ### names -/
def swp (p q k : Nat) : Nat := if k == p then q else if k == q then p else k
mutual
def SV.ren (f : Nat → Nat) : SV → SV
  | .ref k => .ref (f k)
  | .pt k o => .pt (f k) o
  | .cd b s => .cd b (s.ren f)
  | .tup l => .tup (SV.renL f l)
  | .clo g l => .clo g (SV.renL f l)
  | .c i => .c i
  | .agg l => .agg l
  | .ptr l => .ptr l
  | .raw v => .raw v
  | .hdr n => .hdr n
def SV.renL (f : Nat → Nat) : List SV → List SV
  | [] => []
  | s :: l => s.ren f :: SV.renL f l
end
mutual
theorem SV.ren_holds {w : World} {G : Good} {V V' : Nat → Value} {f : Nat → Nat} (hV : ∀ k, V' (f k) = V k) : ∀ (s : SV) (v : Value), s.holds w G V v → (s.ren f).holds w G V' v
  | .ref k, v, h => by have h' : v = V k := h; show v = V' (f k); rw [hV, h']
  | .pt k o, v, h => by obtain ⟨b, hb, hv⟩ := h; exact ⟨b, by rw [hV]; exact hb, hv⟩
  | .cd b s, v, h => ⟨fun hb => SV.ren_holds hV s v (h.1 hb), h.2⟩
  | .tup l, v, h => by obtain ⟨vs, hv, hl⟩ := h; exact ⟨vs, hv, SV.renL_holds hV l vs hl⟩
  | .clo _ l, v, h => by obtain ⟨vs, hv, hl⟩ := h; exact ⟨vs, hv, SV.renL_holds hV l vs hl⟩
  | .c i, v, h => h
  | .agg l, v, h => h
  | .ptr l, v, h => h
  | .raw u, v, h => h
  | .hdr n, v, h => h
theorem SV.renL_holds {w : World} {G : Good} {V V' : Nat → Value} {f : Nat → Nat} (hV : ∀ k, V' (f k) = V k) : ∀ (l : List SV) (vs : List Value), SV.holdsL w G V l vs → SV.holdsL w G V' (SV.renL f l) vs
  | [], vs, h => h
  | s :: l, vs, h => by obtain ⟨v, r, hv, h1, h2⟩ := h; exact ⟨v, r, hv, SV.ren_holds hV s v h1, SV.renL_holds hV l r h2⟩
end
def Ob.ren (f : Nat → Nat) : Ob → Ob
  | .row t n c l => .row t n c l
  | .var t cs => .var t (SV.renL f cs)
  | .deep R a n => .deep R a (n.map fun e => (e.1, f e.2))
theorem Ob.ren_foot {f : Nat → Nat} {w : World} {v : Value} (o : Ob) : (o.ren f).foot w v = o.foot w v := by cases o <;> rfl
theorem cellsSV_ren {w : World} {G : Good} {V V' : Nat → Value} {f : Nat → Nat} (hV : ∀ k, V' (f k) = V k) : ∀ (l : List SV) (us : List Value), cellsSV w G V l us → cellsSV w G V' (SV.renL f l) us
  | [], us, h => h
  | s :: l, us, h => by obtain ⟨u, r, hu, h1, h2, h3⟩ := h; exact ⟨u, r, hu, SV.ren_holds hV s u h1, h2, cellsSV_ren hV l r h3⟩
theorem Ob.ren_holds {w : World} {G : Good} {V V' : Nat → Value} {f : Nat → Nat} (hV : ∀ k, V' (f k) = V k) {v : Value} : ∀ (o : Ob), o.holds w G V v → (o.ren f).holds w G V' v
  | .row t n c l, h => h
  | .var t cs, h => by obtain ⟨b, cur, h1, h2, h3⟩ := h; exact ⟨b, cur, h1, h2, cellsSV_ren hV cs _ h3⟩
  | .deep R a n, h => by
    show R.holds w G v a ((n.map fun e => (e.1, f e.2)).map fun e => (e.1, V' e.2))
    have e : ((n.map fun e => (e.1, f e.2)).map fun e => (e.1, V' e.2)) = (n.map fun e => (e.1, V e.2)) := by simp [hV]
    rw [e]; exact h
def renS (f : Nat → Nat) (S : List (Nat × SV)) : List (Nat × SV) := S.map fun e => (e.1, e.2.ren f)
def renO (f : Nat → Nat) (O : List (Nat × Ob)) : List (Nat × Ob) := O.map fun e => (f e.1, e.2.ren f)
theorem swp_swp0 : True := trivial
theorem swp_swp (p q k : Nat) : swp p q (swp p q k) = k := by
  unfold swp
  by_cases h1 : k = p <;> by_cases h2 : k = q <;> by_cases h3 : q = p <;> simp_all

mutual
theorem renren (p q : Nat) : ∀ (s : SV), (s.ren (swp p q)).ren (swp p q) = s
  | .ref k => by simp [SV.ren, swp_swp]
  | .pt k o => by simp [SV.ren, swp_swp]
  | .cd b s => by simp [SV.ren, renren p q s]
  | .tup l => by simp [SV.ren, renrenL p q l]
  | .clo _ l => by simp [SV.ren, renrenL p q l]
  | .c i | .agg l | .ptr l | .raw v | .hdr n => by simp [SV.ren]
theorem renrenL (p q : Nat) : ∀ (l : List SV), SV.renL (swp p q) (SV.renL (swp p q) l) = l
  | [] => by simp [SV.renL]
  | s :: l => by simp [SV.renL, renren p q s, renrenL p q l]
end

/-- two names are turned -/
theorem St.swap {a : Act} {w : World} (h : St x a w S O) (p q : Nat) (hids : x.ids.all (fun k => swp p q k == k) = true) (hold : x.old p = x.old q) : St x a w (renS (swp p q) S) (renO (swp p q) O) := by
  obtain ⟨G, V, hs, hd, hN, hS, hI⟩ := h
  have hV : ∀ k, (fun k => V (swp p q k)) (swp p q k) = V k := fun k => by simp only [swp_swp]
  have hio : ∀ k, x.old (swp p q k) = x.old k := by
    intro k; unfold swp
    by_cases h1 : k = p
    · subst h1; simp [hold]
    · by_cases h2 : k = q
      · subst h2; simp [h1, hold]
      · simp [h1, h2]
  refine ⟨G, fun k => V (swp p q k), ⟨hs.up, hs.good, hs.g0, hs.g1, ?_, ?_, ?_, hs.gl⟩, hd, hN, ?_, ?_⟩
  · intro e he
    obtain ⟨e', he', rfl⟩ := List.mem_map.1 he
    simp only [swp_swp]
    exact Ob.ren_holds (f := swp p q) hV e'.2 (hs.obs e' he')
  · intro e he b hb
    obtain ⟨e', he', rfl⟩ := List.mem_map.1 he
    simp only [swp_swp, Ob.ren_foot] at hb
    have := hs.own e' he' b hb
    simp only [hio]
    exact this
  · intro e he e2 he2 hne b hb
    obtain ⟨e', he', rfl⟩ := List.mem_map.1 he
    obtain ⟨e2', he2', rfl⟩ := List.mem_map.1 he2
    simp only [swp_swp, Ob.ren_foot] at hb ⊢
    exact hs.apart e' he' e2' he2' (fun e => hne (by simp [e])) b hb
  · intro e he
    obtain ⟨e', he', rfl⟩ := List.mem_map.1 he
    obtain ⟨h1, v, h2, h3⟩ := hS e' he'
    exact ⟨h1, v, h2, SV.ren_holds (f := swp p q) hV e'.2 v h3⟩
  · intro k hk
    have h1 := List.all_eq_true.1 hids k hk
    simp only [beq_iff_eq] at h1
    simp only [h1]
    exact hI k hk

/-- a nil slice in the slot s becomes a row of the call's own -/
def nilTo (s : Nat) (sv : SV) (S : List (Nat × SV)) : List (Nat × SV) := S.map fun e => if e.1 == s then (e.1, sv) else e
theorem St.ownNil {a : Act} {w : World} (h : St x a w S O) (s id : Nat) (t' : TypeId) (n : Nat) {α : Type} (c : α → List It) (i : Nat) (hi : S[i]? = some (s, .raw (.slice none 0 0))) (hfr : freeO id O = true) (hok : okS (butp id) S = true) (hids : x.ids.all (butp id) = true) :
    St x a w (nilTo s (.ref id) S) ((id, .row t' n c []) :: O) := by
  obtain ⟨G, V, hs, hd, hN, hS, hI⟩ := h
  have hsl : a.tmps[s]? = some (.slice none 0 0) := by
    obtain ⟨_, v, h1, h2⟩ := hS _ (List.mem_of_getElem? hi)
    have h3 : v = .slice none 0 0 := h2
    rw [← h3]; exact h1
  refine ⟨G, setV V id (.slice none 0 0), ?_, hd, hN, ?_, ids_keep hI hids setV_but⟩
  · refine hs.turn (F := fun _ => False) (Upd.refl _ _) (fun _ f => f.elim) (fun e he => ⟨he, fun _ _ f => f⟩) hfr ⟨[], .inl (World.ownsRow_nil _ _ _ _), trivial, fun y hy => by simp at hy⟩ ?_
    intro b hb
    cases hb
  · intro e he
    obtain ⟨e', he', hee⟩ := List.mem_map.1 he
    obtain ⟨h1, v, h2, h3⟩ := hS e' he'
    by_cases hs' : e'.1 = s
    · rw [if_pos (by simpa using hs')] at hee
      subst hee
      exact ⟨h1, .slice none 0 0, by rw [hs']; exact hsl, setV_same.symm⟩
    · rw [if_neg (by simpa using hs')] at hee
      subst hee
      exact ⟨h1, v, h2, SV.holds_mono (fun _ _ => rfl) (fun _ h => h) setV_but _ _ (List.all_eq_true.1 hok e' he') h3⟩

/-- what a slot holds, said with less -/
inductive Less (O : List (Nat × Ob)) : SV → SV → Prop
  | nil {α : Type} (n : Nat) (c : α → List It) : Less O (.raw (.slice none 0 0)) (SL n c [])
  | hdr {k t n : Nat} {α : Type} {c : α → List It} {l : List α} (i : Nat) (h : O[i]? = some (k, .row t n c l)) : Less O (.ref k) (.hdr l.length)
  | int {k : IntKind} {p : Int} : Less O (.raw (.int k p)) (IK k p)
  | err {T : TypeId} : Less O (.raw .nilIface) (Er T none)
def lessTo (s : Nat) (sv : SV) (S : List (Nat × SV)) : List (Nat × SV) := nilTo s sv S
theorem St.less {a : Act} {w : World} (h : St x a w S O) (s : Nat) {s1 sv : SV} (i : Nat) (hi : S[i]? = some (s, s1)) (hl : Less O s1 sv) : St x a w (lessTo s sv S) O := by
  obtain ⟨G, V, hs, hd, hN, hS, hI⟩ := h
  refine ⟨G, V, hs, hd, hN, ?_, hI⟩
  intro e he
  obtain ⟨e', he', hee⟩ := List.mem_map.1 he
  obtain ⟨h1, v, h2, h3⟩ := hS e' he'
  by_cases hs' : e'.1 = s
  · rw [if_pos (by simpa using hs')] at hee
    subst hee
    obtain ⟨_, v', h4, h5⟩ := hS _ (List.mem_of_getElem? hi)
    refine ⟨h1, v', by rw [hs']; exact h4, ?_⟩
    cases hl with
    | nil n c =>
      have h6 : v' = .slice none 0 0 := h5
      exact ⟨none, 0, h6, Nat.le_refl _, fun h => absurd rfl h⟩
    | @hdr k _ _ _ _ _ i h =>
      have h6 : v' = V k := h5
      obtain ⟨xs, ho, _⟩ := hs.obs _ (List.mem_of_getElem? h)
      rcases ownsRow_cases ho with ⟨a0, h7, h8, _⟩ | ⟨b, cap, cur, h7, _⟩
      · exact ⟨a0, 0, by rw [h6]; simpa [h8] using h7⟩
      · exact ⟨_, cap, by rw [h6]; exact h7⟩
    | int => exact h5
    | err => exact h5
  · rw [if_neg (by simpa using hs')] at hee
    subst hee
    exact ⟨h1, v, h2, h3⟩

/-- A change of what is said of a state, in whatever stands in front. -/
def Says (x : Cx) (S : List (Nat × SV)) (O : List (Nat × Ob)) (S' : List (Nat × SV)) (O' : List (Nat × Ob)) : Prop := ∀ a w, St x a w S O → St x a w S' O'
theorem Says.nx (h : Says x S O S' O') (k : Nx P ops Q rest x S' O') : Nx P ops Q rest x S O := fun a w hs => k a w (h a w hs)
theorem Says.cw {c : Code} (h : Says x S O S' O') (k : Cw P c Q x S' O') : Cw P c Q x S O := fun a w hs => k a w (h a w hs)
theorem Says.ex {e : Exit} (h : Says x S O S' O') (k : Ex Q e x S' O') : Ex Q e x S O := fun a w hs => k a w (h a w hs)
theorem Says.kx {K : Act → World → Prop} (h : Says x S O S' O') (k : Kx K x S' O') : Kx K x S O := fun a w hs => k a w (h a w hs)

theorem says_pick (i j : List Nat) (hS : pickL S i = S') (hO : pickL O j = O') : Says x S O S' O' := fun a w hs => by have := hs.pick i j; rwa [hS, hO] at this
theorem says_freezeRow {k : Nat} {t n : Nat} {α : Type} {c : α → List It} {l : List α} (i : Nat) (hk : O[i]? = some (k, .row t n c l)) (hold : x.old k = false) (hcn : ∀ y, (c y).length = n) (hS : mapS (unref k (iSL n c l)) S = S') (hO : mapO (unref k (iSL n c l)) (del k O) = O') : Says x S O S' O' := fun a w hs => by have := hs.freezeRow i hk hold hcn; rwa [hS, hO] at this
theorem says_freezeVar {k : Nat} {t : Nat} {its : List It} (i : Nat) (hk : O[i]? = some (k, .var t (its.map SV.c))) (hold : x.old k = false) (hS : mapS (unrefP k its) S = S') (hO : mapO (unrefP k its) (del k O) = O') : Says x S O S' O' := fun a w hs => by have := hs.freezeVar i hk hold; rwa [hS, hO] at this
theorem says_swap (p q : Nat) (hids : x.ids.all (fun k => swp p q k == k) = true) (hold : x.old p = x.old q) (hS : renS (swp p q) S = S') (hO : renO (swp p q) O = O') : Says x S O S' O' := fun a w hs => by have := hs.swap p q hids hold; rwa [hS, hO] at this
theorem says_ownNil (s id : Nat) (t' : TypeId) (n : Nat) {α : Type} (c : α → List It) (i : Nat) (hi : S[i]? = some (s, .raw (.slice none 0 0))) (hfr : freeO id O = true) (hok : (okS (butp id) S && x.ids.all (butp id)) = true) (hS : nilTo s (.ref id) S = S') : Says x S O S' ((id, .row t' n c []) :: O) := fun a w hs => by
  simp only [Bool.and_eq_true] at hok
  have := hs.ownNil s id t' n c i hi hfr hok.1 hok.2; rwa [hS] at this
theorem says_less (s : Nat) {s1 sv : SV} (i : Nat) (hi : S[i]? = some (s, s1)) (hl : Less O s1 sv) (hS : lessTo s sv S = S') : Says x S O S' O := fun a w hs => by have := hs.less s i hi hl; rwa [hS] at this

/-! ### more operations -/
theorem op_lenH {t e : TypeId} {ex : Operand} {n : Nat} (hx : Can S ex (.hdr n)) (hu : P.underlying t = some (.slice e)) :
    OpX P x S O ⟨d, .call { callee := .builtin .len, args := #[ex], argTypes := #[t] }, ty, pos, aft, g⟩ (I n) O allp := .pure fun a w G V _ hS => by
  obtain ⟨ad, cap, hv⟩ := hx.eval hS
  exact ⟨.int .i64 n, by simp [execOp, resolve, invoke, builtin, hv, Builtin.len_, run_underlying hu, goInt], rfl⟩

/-- a piece of data -/
theorem op_sliceS {t e : TypeId} {ex : Operand} {α : Type} {n : Nat} {c : α → List It} {l : List α} {elo ehi : Option Operand} (lo hi : Nat) (hx : Can S ex (SL n c l)) (hu : P.underlying t = some (.slice e)) (hs : sizeT P e = some n)
    (hlo : (elo = none ∧ lo = 0) ∨ ∃ o, elo = some o ∧ Can S o (I (lo : Int))) (hhi : (ehi = none ∧ hi = l.length) ∨ ∃ o, ehi = some o ∧ Can S o (I (hi : Int))) (h1 : lo ≤ hi) (h2 : hi ≤ l.length) :
    OpX P x S O ⟨d, .slice t ex elo ehi none, ty, pos, aft, g⟩ (SL n c ((l.take hi).drop lo)) O allp := .pure fun a w G V _ hS => by
  obtain ⟨ad, cap, hv, hcap, hc⟩ := hx.eval hS
  have hhi' : (Instr.sliceBounds true l.length cap (elo.map a.eval) (ehi.map a.eval) none).run P w = .ok (lo, hi, cap) w := by
    have e1 : ∀ y : Nat, hi ≤ y → (Instr.sliceBound (.int .i64 (hi : Int)) y .sliceAcap).run P w = .ok hi w := by
      intro y hy
      have h3 : (0 : Int) ≤ (hi : Int) ∧ (hi : Int) ≤ (y : Int) := by omega
      simp [Instr.sliceBound, asIntOf, h3]
    have e2 : (Instr.sliceBound (.int .i64 (lo : Int)) hi .sliceB).run P w = .ok lo w := by
      have h3 : (0 : Int) ≤ (lo : Int) ∧ (lo : Int) ≤ (hi : Int) := by omega
      simp [Instr.sliceBound, asIntOf, h3]
    rcases hhi with ⟨rfl, rfl⟩ | ⟨oh, rfl, hch⟩ <;> rcases hlo with ⟨rfl, rfl⟩ | ⟨ol, rfl, hcl⟩
    · simp [Instr.sliceBounds]
    · have h4 : a.eval ol = .int .i64 (lo : Int) := hcl.eval hS
      simp [Instr.sliceBounds, h4, e2]
    · have h4 : a.eval oh = .int .i64 (hi : Int) := hch.eval hS
      simp [Instr.sliceBounds, h4, e1 cap (by simp only at hcap; omega)]
    · have h4 : a.eval oh = .int .i64 (hi : Int) := hch.eval hS
      have h5 : a.eval ol = .int .i64 (lo : Int) := hcl.eval hS
      simp [Instr.sliceBounds, h4, h5, e1 cap (by simp only at hcap; omega), e2]
  refine ⟨.slice (if cap = lo then ad else ad.map (·.add (lo * n))) (hi - lo) (cap - lo), ?_, ?_⟩
  · simp [execOp, Instr.sliceAt, hv, run_underlying hu, Instr.slice, hhi', run_sizeT hs]
  · have hlen : ((l.take hi).drop lo).length = hi - lo := by simp; omega
    refine ⟨if cap = lo then ad else ad.map (·.add (lo * n)), cap - lo, by rw [hlen], by rw [hlen]; simp only at hcap; omega, ?_⟩
    intro hne
    have hpos : lo < hi := by
      rcases Nat.lt_or_ge lo hi with h | h
      · exact h
      · exact absurd (List.eq_nil_of_length_eq_zero (by rw [hlen]; omega)) hne
    have hl : l ≠ [] := by intro h; subst h; simp at h2; omega
    obtain ⟨b, off, rfl, hb, hcells⟩ := hc hl
    refine ⟨b, off + lo * n, ?_, hb, ?_⟩
    · rw [if_neg (by simp only at hcap; omega)]; simp [addr_add]
    · intro i hi'
      have h6 : lo + i < l.length := by rw [hlen] at hi'; omega
      have := hcells (lo + i) h6
      rw [Nat.add_mul, ← Nat.add_assoc] at this
      simpa using this

theorem op_min {t t' : TypeId} {ex ey : Operand} {p q : Int} (hx : Can S ex (I p)) (hy : Can S ey (I q)) : OpX P x S O ⟨d, .call { callee := .builtin .min, args := #[ex, ey], argTypes := #[t, t'] }, ty, pos, aft, g⟩ (I (min p q)) O allp := .pure fun a w G V _ hS => by
  have h1 : a.eval ex = .int .i64 p := hx.eval hS
  have h2 : a.eval ey = .int .i64 q := hy.eval hS
  refine ⟨.int .i64 (min p q), ?_, rfl⟩
  have h3 : (if q < p then q else p) = min p q := by omega
  simp [execOp, resolve, invoke, builtin, h1, h2, Builtin.min_, Builtin.min2, h3]
theorem op_max {t t' : TypeId} {ex ey : Operand} {p q : Int} (hx : Can S ex (I p)) (hy : Can S ey (I q)) : OpX P x S O ⟨d, .call { callee := .builtin .max, args := #[ex, ey], argTypes := #[t, t'] }, ty, pos, aft, g⟩ (I (max p q)) O allp := .pure fun a w G V _ hS => by
  have h1 : a.eval ex = .int .i64 p := hx.eval hS
  have h2 : a.eval ey = .int .i64 q := hy.eval hS
  refine ⟨.int .i64 (max p q), ?_, rfl⟩
  have h3 : (if q > p then q else p) = max p q := by omega
  have h4 : (if p < q then q else p) = max p q := by omega
  simp [execOp, resolve, invoke, builtin, h1, h2, Builtin.max_, Builtin.max2, h3]

/-- the operations as the plain functions say them -/
theorem op_indexX {t e : TypeId} {ex ei : Operand} {α : Type} {n : Nat} {c : α → List It} {l : List α} {k : Int} {y : α} (hy : ix l k = some y) (hx : Can S ex (SL n c l)) (hi : Can S ei (I k)) (hu : P.underlying t = some (.slice e)) (hs : sizeT P e = some n) :
    OpX P x S O ⟨d, .indexAddr t ex ei, ty, pos, aft, g⟩ (.ptr (c y)) O allp := op_index hx hi hu hs (ix_spec hy).1 (ix_spec hy).2
theorem op_indexRX {t e : TypeId} {ex ei : Operand} {k : Nat} {t' : TypeId} {n : Nat} {α : Type} {c : α → List It} {l : List α} {j : Int} {y : α} (hy : ix l j = some y) (hx : Can S ex (.ref k)) (i : Nat) (hk : O[i]? = some (k, .row t' n c l)) (hi : Can S ei (I j)) (hu : P.underlying t = some (.slice e)) (hs : sizeT P e = some n) :
    OpX P x S O ⟨d, .indexAddr t ex ei, ty, pos, aft, g⟩ (.pt k (j.toNat * n)) O allp := op_indexR hx i hk hi hu hs (ix_spec hy).1 (List.getElem?_eq_some_iff.1 (ix_spec hy).2).1
theorem op_appendX {t e : TypeId} {es ex : Operand} {k : Nat} {n by_ : Nat} {α : Type} {c : α → List It} {l l2 v : List α} (hv : app l l2 = some v) (id : Nat) (hx : Can S es (.ref k)) (i : Nat) (hk : O[i]? = some (k, .row e n c l)) (hy : Can S ex (SL n c l2)) (hu : P.underlying t = some (.slice e)) (hi : infoT P e = some (n, by_, n)) (hn0 : 0 < n) (hby : by_ ≤ 4096)
    (hcn : ∀ y, (c y).length = n) (hfr : freeO id (del k O) = true) (hold : (!x.old k || x.old id) = true) :
    OpX P x S O ⟨d, .call { callee := .builtin .append, args := #[es, ex], argTypes := #[t, t] }, ty, pos, aft, g⟩ (.ref id) ((id, .row e n c v) :: del k O) (butp id) := by
  obtain ⟨h1, h2⟩ := app_spec hv
  subst h2
  exact op_append id hx i hk hy hu hi hn0 hby hcn h1 hfr hold
theorem op_sliceX {t e : TypeId} {ex elo ehi : Operand} {α : Type} {n : Nat} {c : α → List It} {l v : List α} {lo hi : Int} (hv : sub l lo hi = some v) (hx : Can S ex (SL n c l)) (hl : Can S elo (I lo)) (hh : Can S ehi (I hi)) (hu : P.underlying t = some (.slice e)) (hs : sizeT P e = some n) :
    OpX P x S O ⟨d, .slice t ex (some elo) (some ehi) none, ty, pos, aft, g⟩ (SL n c v) O allp := by
  obtain ⟨h1, h2, h3, h4⟩ := sub_spec hv
  subst h4
  have e1 : ((lo.toNat : Nat) : Int) = lo := by omega
  have e2 : ((hi.toNat : Nat) : Int) = hi := by omega
  exact op_sliceS lo.toNat hi.toNat hx hu hs (.inr ⟨elo, rfl, by rw [e1]; exact hl⟩) (.inr ⟨ehi, rfl, by rw [e2]; exact hh⟩) (by omega) (by omega)
theorem op_sliceLo {t e : TypeId} {ex elo : Operand} {α : Type} {n : Nat} {c : α → List It} {l v : List α} {lo : Int} (hv : sub l lo (l.length : Int) = some v) (hx : Can S ex (SL n c l)) (hl : Can S elo (I lo)) (hu : P.underlying t = some (.slice e)) (hs : sizeT P e = some n) :
    OpX P x S O ⟨d, .slice t ex (some elo) none none, ty, pos, aft, g⟩ (SL n c v) O allp := by
  obtain ⟨h1, h2, h3, h4⟩ := sub_spec hv
  subst h4
  have e1 : ((lo.toNat : Nat) : Int) = lo := by omega
  exact op_sliceS lo.toNat _ hx hu hs (.inr ⟨elo, rfl, by rw [e1]; exact hl⟩) (.inl ⟨rfl, by simp⟩) (by simp; omega) (by simp)
theorem op_sliceHi {t e : TypeId} {ex ehi : Operand} {α : Type} {n : Nat} {c : α → List It} {l v : List α} {hi : Int} (hv : sub l 0 hi = some v) (hx : Can S ex (SL n c l)) (hh : Can S ehi (I hi)) (hu : P.underlying t = some (.slice e)) (hs : sizeT P e = some n) :
    OpX P x S O ⟨d, .slice t ex none (some ehi) none, ty, pos, aft, g⟩ (SL n c v) O allp := by
  obtain ⟨h1, h2, h3, h4⟩ := sub_spec hv
  subst h4
  have e2 : ((hi.toNat : Nat) : Int) = hi := by omega
  exact op_sliceS 0 hi.toNat hx hu hs (.inl ⟨rfl, rfl⟩) (.inr ⟨ehi, rfl, by rw [e2]; exact hh⟩) (by omega) (by omega)
theorem op_quoX {k : IntKind} {t ty' : TypeId} {ex ey : Operand} {p q q' : Int} (hq : nz q = some q') (hx : Can S ex (IK k p)) (hy : Can S ey (IK k q)) : OpX P x S O ⟨d, .binOp .quo t ex ey ty', ty, pos, aft, g⟩ (IK k (k.wrap (p.tdiv q))) O allp := op_quo hx hy (nz_spec hq)
theorem op_remX {k : IntKind} {t ty' : TypeId} {ex ey : Operand} {p q q' : Int} (hq : nz q = some q') (hx : Can S ex (IK k p)) (hy : Can S ey (IK k q)) : OpX P x S O ⟨d, .binOp .rem t ex ey ty', ty, pos, aft, g⟩ (IK k (p.tmod q)) O allp := op_rem hx hy (nz_spec hq)
theorem op_or {ec eb : Operand} {c q : Bool} (hc : Can S ec (B c)) (hb : c = false → Can S eb (B q)) : OpX P x S O ⟨d, .pick ec (.const (.bool true)) eb, ty, pos, aft, g⟩ (B (c || q)) O allp :=
  op_pick hc (fun _ => Can.bool S true) hb (fun h => by rw [h]; rfl) (fun h => by rw [h]; rfl)
theorem op_and {ec eb : Operand} {c q : Bool} (hc : Can S ec (B c)) (hb : c = true → Can S eb (B q)) : OpX P x S O ⟨d, .pick ec eb (.const (.bool false)), ty, pos, aft, g⟩ (B (c && q)) O allp :=
  op_pick hc hb (fun _ => Can.bool S false) (fun h => by rw [h]; rfl) (fun h => by rw [h]; rfl)

/-- make, as a row of the call's own -/
theorem op_makeX {t e : TypeId} {el ec : Operand} {α : Type} {n by_ : Nat} {c : α → List It} {m : Int} {zc : α} {v : List α} {zs : List Value} (hv : mk m zc = some v) (id : Nat) (hl : Can S el (I m)) (hc : Can S ec (I m)) (hu : P.underlying t = some (.slice e)) (hi : infoT P e = some (n, by_, n)) (hby : by_ ≤ 4096) (hn0 : 0 < n)
    (hb : bldL P t = some (e, zs)) (hz : ∀ w G, cellsRd w G zs (c zc)) (hcn : ∀ y, (c y).length = n) (hfr : freeO id O = true) :
    OpX P x S O ⟨d, .makeSlice t el ec, ty, pos, aft, g⟩ (.ref id) ((id, .row e n c v) :: O) (butp id) := by
  obtain ⟨h1, h2, h3⟩ := mk_spec hv
  subst h3
  intro a w G V hs _ hS
  have e1 : a.eval el = .int .i64 m := hl.eval hS
  have e2 : a.eval ec = .int .i64 m := hc.eval hS
  have e3 : m = ((m.toNat : Nat) : Int) := by omega
  cases hinf : P.info? e with
  | none => simp [infoT, hinf] at hi
  | some ie =>
    cases hzz : ie.zero with
    | none => simp [infoT, hinf, hzz] at hi
    | some z =>
      simp only [infoT, hinf, hzz, Option.bind_some, Option.map_some, Option.some.injEq, Prod.mk.injEq] at hi
      obtain ⟨hi1, hi2, hi3⟩ := hi
      have hzs : zs = z.cells.toList := by
        simp only [bldL, hu, hinf, hzz] at hb
        split at hb
        · simp only [Option.some.injEq, Prod.mk.injEq] at hb; exact hb.2.symm
        · cases hb
      obtain ⟨w', hr, h4, h5⟩ := run_make_full (P := P) w 0 t e ie z n hu hinf hzz hi1 .i64 .i64 m.toNat (by
          have : by_ * m.toNat ≤ 4096 * LIM := Nat.mul_le_mul hby (by omega)
          simp only [LIM] at this; rw [hi2]; omega) (by unfold maxLen; simp only [LIM] at h2; omega) (Nat.zero_le _)
      have hup : Upd (fun _ => False) w w' := ⟨h5.os, h5.tape, h5.output, h5.size, fun k hk _ => h5.block k hk (by simp)⟩
      have hG : ∀ k, G k → w'.heap[k]? = w.heap[k]? := fun k hk => hup.block k (hs.good k hk) (fun f => f)
      refine Yields.value (v := .slice (some ⟨w.heap.size, 0, none⟩) m.toNat m.toNat) (w' := w') ?_ ⟨G, setV V id (.slice (some ⟨w.heap.size, 0, none⟩) m.toNat m.toNat), ?_, fun _ h => h, hG, setV_but, setV_same.symm⟩
      · simp only [execOp, e1, e2, Sem.run_bind]
        rw [e3]
        simp only [Int.toNat_natCast]
        rw [hr]; rfl
      · refine hs.turn hup (fun _ f => f.elim) (fun e he => ⟨he, fun _ _ f => f⟩) hfr ?_ ?_
        · refine ⟨_, by rw [List.length_replicate]; exact .inl h4, ?_, fun y _ => hcn y⟩
          have h6 : (madeCells z.cells (m.toNat * n)).toList = (List.replicate m.toNat zs).flatten := by
            rw [hzs, ← zeros_rep z.cells (by omega) m.toNat]
            simp [madeCells, hi3]
          rw [h6]
          have h7 : (List.replicate m.toNat zc).flatMap c = repL m.toNat (c zc) := by
            simp [repL, List.flatMap, List.map_replicate]
          rw [h7]
          exact cellsRd_rep (hz w' G) _
        · intro b hb'
          obtain ⟨_, y, hy, rfl⟩ := blkR_at hb'
          cases hy
          exact ⟨(ownsRow_blkR h4 hb').1, .inr (Nat.le_refl _)⟩

/-- a contract under other names -/
theorem Fn.swap {f : FuncId} {as : List SV} {I R : List (Nat × Ob)} {res : SV} (h : Fn P f as I res R) (p q : Nat) : Fn P f (SV.renL (swp p q) as) (renO (swp p q) I) (res.ren (swp p q)) (renO (swp p q) R) := by
  intro w G V vs hs hv
  have hV : ∀ k, V (swp p q (swp p q k)) = V k := fun k => by rw [swp_swp]
  have back : ∀ (l : List (Nat × Ob)) (e : Nat × Ob), e ∈ l → (swp p q e.1, e.2.ren (swp p q)) ∈ renO (swp p q) l := fun l e he => List.mem_map.2 ⟨e, he, rfl⟩
  have hob : ∀ (o : Ob), (o.ren (swp p q)).ren (swp p q) = o := by
    have hsv : (∀ s : SV, (s.ren (swp p q)).ren (swp p q) = s) ∧ (∀ l : List SV, SV.renL (swp p q) (SV.renL (swp p q) l) = l) := ⟨renren p q, renrenL p q⟩
    intro o
    cases o with
    | row => rfl
    | var t cs => simp only [Ob.ren, hsv.2]
    | deep R a n =>
      show Ob.deep R a ((n.map fun e => (e.1, swp p q e.2)).map fun e => (e.1, swp p q e.2)) = _
      congr 1
      rw [List.map_map]
      conv => rhs; rw [← List.map_id n]
      exact List.map_congr_left fun e _ => by simp only [Function.comp, swp_swp]; rfl
  have hblk : blks w (fun k => V (swp p q k)) I = blks w V (renO (swp p q) I) := by
    funext b
    apply propext
    constructor
    · rintro ⟨e, he, hb⟩; exact ⟨_, back I e he, by simpa only [Ob.ren_foot] using hb⟩
    · rintro ⟨e, he, hb⟩
      obtain ⟨e', he', rfl⟩ := List.mem_map.1 he
      exact ⟨e', he', by simpa only [Ob.ren_foot] using hb⟩
  have h1 := h w G (fun k => V (swp p q k)) vs ?_ ?_
  · refine h1.mono ?_
    rintro e w' ⟨v, G', V', rfl, hs', hr, hi⟩
    refine ⟨v, G', fun k => V' (swp p q k), rfl, ?_, ?_, ?_⟩
    · refine ⟨?_, hs'.good, hs'.g0, hs'.g1, ?_, ?_, ?_, hs'.gl⟩
      · have := hs'.up
        simp only [outer] at this ⊢
        rw [hblk] at this
        exact this
      · intro e he
        obtain ⟨e', he', rfl⟩ := List.mem_map.1 he
        simp only [swp_swp]
        exact Ob.ren_holds (f := swp p q) (V' := fun k => V' (swp p q k)) (fun k => by simp only [swp_swp]) e'.2 (hs'.obs e' he')
      · intro e he b hb
        obtain ⟨e', he', rfl⟩ := List.mem_map.1 he
        simp only [swp_swp, Ob.ren_foot] at hb
        have := hs'.own e' he' b hb
        simp only [outer] at this ⊢
        rw [hblk] at this
        exact this
      · intro e he e2 he2 hne b hb
        obtain ⟨e', he', rfl⟩ := List.mem_map.1 he
        obtain ⟨e2', he2', rfl⟩ := List.mem_map.1 he2
        simp only [swp_swp, Ob.ren_foot] at hb ⊢
        exact hs'.apart e' he' e2' he2' (fun e => hne (by simp [e])) b hb
    · exact SV.ren_holds (f := swp p q) (V' := fun k => V' (swp p q k)) (fun k => by simp only [swp_swp]) res v hr
    · intro e he
      obtain ⟨e', he', rfl⟩ := List.mem_map.1 he
      simp only [swp_swp]
      exact hi e' he'
  · refine ⟨Upd.refl _ _, hs.good, fun _ h => h, fun _ h => .inl h, ?_, ?_, ?_, hs.gl⟩
    · intro e he
      have h2 := hs.obs _ (back I e he)
      have h3 := Ob.ren_holds (f := swp p q) (V' := fun k => V (swp p q k)) hV _ h2
      rw [hob] at h3
      exact h3
    · intro e he b hb
      have h2 := hs.own _ (back I e he) b (by simpa only [Ob.ren_foot] using hb)
      refine ⟨h2.1, h2.2.1, .inr ⟨⟨e, he, hb⟩, rfl⟩⟩
    · intro e he e2 he2 hne b hb
      refine fun hb' => hs.apart _ (back I e he) _ (back I e2 he2) (fun h => hne ?_) b (by simpa only [Ob.ren_foot] using hb) (by simpa only [Ob.ren_foot] using hb')
      have := congrArg (swp p q) h
      simpa [swp_swp] using this
  · have h2 := SV.renL_holds (f := swp p q) (V' := fun k => V (swp p q k)) hV _ vs hv
    rw [renrenL] at h2
    exact h2

end
end Go.Dl
