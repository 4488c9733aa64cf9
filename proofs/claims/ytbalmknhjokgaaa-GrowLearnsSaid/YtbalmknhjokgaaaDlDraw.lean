/- The data level, eighth text: guards; regions whose order is open. -/
import Derived.Test.YtbalmknhjokgaaaDlCode
import Derived.StillTail
set_option linter.unusedVariables false
namespace Go.Dl
open Go Go.RowKit

section
variable {P : Program} {ops : Array Oper} {Q : Exit → Act → World → Prop} {rest : List Oper} {x : Cx} {S S' : List (Nat × SV)} {O O' : List (Nat × Ob)}

/-- What an operation leaves. -/
def Left (x : Cx) (O' : List (Nat × Ob)) (p : Nat → Bool) (sv : SV) (w : World) (G : Good) (V : Nat → Value) (v : Value) (w' : World) : Prop :=
  ∃ G' V', Sep x w' G' V' O' ∧ (∀ k, G k → G' k) ∧ (∀ k, G k → w'.heap[k]? = w.heap[k]?) ∧ (∀ k, p k = true → V' k = V k) ∧ sv.holds w' G' V' v

/-- An operation of a region, guarded or not. -/
def OpY (P : Program) (ops : Array Oper) (x : Cx) (S : List (Nat × SV)) (O : List (Nat × Ob)) (o : Oper) (sv : SV) (O' : List (Nat × Ob)) (p : Nat → Bool) : Prop :=
  ∀ a w G V, Sep x w G V O → a.defers = [] → Slots x.N a w G V S →
    if Region.wanted o (yielded ops a.tmps) then Yields P o a w (Left x O' p sv w G V) else Left x O' p sv w G V undef w

theorem OpX.y {o : Oper} {sv : SV} {p : Nat → Bool} (h : OpX P x S O o sv O' p) (hg : o.guard = none) : OpY P ops x S O o sv O' p := by
  intro a w G V h1 h2 h3
  rw [if_pos (by simp [Region.wanted, hg])]
  exact h a w G V h1 h2 h3

def gw (g want : Bool) : Bool := match want with | true => g | false => !g

/-- The guard's slot: when it holds a bool, and which. -/
inductive Grd (S : List (Nat × SV)) (s : Nat) : Bool → Bool → Prop
  | plain {g : Bool} (i : Nat) (h : S[i]? = some (s, B g)) : Grd S s true g
  | cond {c g : Bool} (i : Nat) (h : S[i]? = some (s, .cd c (B g))) : Grd S s c g

theorem Grd.wanted {s j : Nat} {c g want : Bool} (h : Grd S s c g) (hj : (ops[j]?).bind (·.dst) = some s) {o : Oper} (hg : o.guard = some (j, want)) {N : Nat} {a : Act} {w : World} {G : Good} {V : Nat → Value} (hS : Slots N a w G V S) :
    Region.wanted o (yielded ops a.tmps) = (c && gw g want) := by
  simp only [Region.wanted, hg, yielded, hj, Option.bind_some]
  cases h with
  | plain i h =>
    obtain ⟨_, v, h1, h2⟩ := hS _ (List.mem_of_getElem? h)
    have h3 : v = .bool g := h2
    rw [h1, h3]
    cases g <;> cases want <;> rfl
  | cond i h =>
    obtain ⟨_, v, h1, h2⟩ := hS _ (List.mem_of_getElem? h)
    rw [h1]
    cases c with
    | true =>
      have h3 : v = .bool g := h2.1 rfl
      rw [h3]
      cases g <;> cases want <;> rfl
    | false =>
      have h3 : v = undef := h2.2 rfl
      rw [h3]; rfl

theorem opy_guard {s j : Nat} {c g want cc : Bool} {d : Option Nat} {op : Op} {ty : TypeId} {pos : String} {aft : Array Edge} {sv : SV} (h : Grd S s c g) (hj : (ops[j]?).bind (·.dst) = some s) (hcc : (c && gw g want) = cc)
    (ho : cc = true → OpX P x S O ⟨d, op, ty, pos, aft, some (j, want)⟩ sv O allp) : OpY P ops x S O ⟨d, op, ty, pos, aft, some (j, want)⟩ (.cd cc sv) O allp := by
  intro a w G V h1 h2 h3
  rw [h.wanted hj rfl h3, hcc]
  cases cc with
  | true =>
    rw [if_pos rfl]
    have h4 := ho rfl a w G V h1 h2 h3
    unfold Yields at h4 ⊢
    revert h4
    generalize (execOp a.eval _).run P w = r
    intro h4
    cases r with
    | ok n w' =>
      cases n <;> simp only at h4 ⊢
      case value v => obtain ⟨G', V', h5, h6, h7, h8, h9⟩ := h4; exact ⟨G', V', h5, h6, h7, h8, fun _ => h9, fun h => by simp at h⟩
      case skip => obtain ⟨G', V', h5, h6, h7, h8, h9⟩ := h4; exact ⟨G', V', h5, h6, h7, h8, fun _ => h9, fun h => by simp at h⟩
      case enter f args =>
        refine h4.mono ?_
        rintro e w'' ⟨v, he, G', V', h5, h6, h7, h8, h9⟩
        exact ⟨v, he, G', V', h5, h6, h7, h8, fun _ => h9, fun h => by simp at h⟩
    | halt x w' => simp only at h4
  | false =>
    rw [if_neg (by simp)]
    exact ⟨G, V, h1, fun _ h => h, fun _ _ => rfl, fun _ _ => rfl, fun h => by simp at h, fun _ => rfl⟩

theorem nx_gop {d : Nat} {op : Op} {ty : TypeId} {pos : String} {aft : Array Edge} {gd : Option (Nat × Bool)} {sv : SV} {p : Nat → Bool} (ho : OpY P ops x S O ⟨some d, op, ty, pos, aft, gd⟩ sv O' p) (hk : (chk x.N d S && okS p S && x.ids.all p) = true)
    (k : Nx P ops Q rest x ((d, sv) :: S) O') : Nx P ops Q (⟨some d, op, ty, pos, aft, gd⟩ :: rest) x S O := by
  intro a w ⟨G, V, hs, hd, hN, hS, hI⟩
  simp only [Bool.and_eq_true] at hk
  have h1 := ho a w G V hs hd hS
  have fin : ∀ v w', Left x O' p sv w G V v w' → wpList P ops Q rest (a.put (some d) v) w' := fun v w' ⟨G', V', hs', hg, hw, hV, hv⟩ =>
    k _ _ ⟨G', V', hs', by show (Act.put a (some d) v).defers = []; exact hd, by show (a.tmps.setIfInBounds d v).size = _; simpa using hN, hS.put hN hk.1.1 hk.1.2 hw hg hV hv, ids_keep hI hk.2 hV⟩
  refine wpList_step fun K hK => ?_
  split at h1
  · rename_i hw
    rw [if_pos hw]
    exact h1.wp fun v w' hl => hK _ _ (fin v w' hl)
  · rename_i hw
    rw [if_neg hw]
    exact hK _ _ (fin _ _ h1)

/-! ### regions whose order is open -/

theorem OpY.mono {o : Oper} {sv : SV} {p : Nat → Bool} (h : OpY P ops x S O o sv O' p) {S2 : List (Nat × SV)} (hs : ∀ e ∈ S, e ∈ S2) : OpY P ops x S2 O o sv O' p := fun a w G V h1 h2 h3 => h a w G V h1 h2 (h3.sub hs)

/-- HOW A REGION GOES, WHATEVER ITS ORDER. Some operations (the chain) turn the objects, or the slots that stood before; they come one behind the other. All others only add a slot. 'm': what is surely ahead of each (masks of bits). -/
structure Plan where
  /-- the chain's operations, in their order -/
  ch : List Nat
  /-- masks of what is surely ahead -/
  m : List (List Nat)
  /-- at each stage (how many of the chain are done): what stood in the slots, what is owned -/
  base : List (List (Nat × SV))
  obj : List (List (Nat × Ob))
  /-- what an operation of the others leaves in its slot -/
  ent : List (Nat × SV)

def Plan.B (pl : Plan) (k : Nat) : List (Nat × SV) := pl.base.getD k []
def Plan.J (pl : Plan) (k : Nat) : List (Nat × Ob) := pl.obj.getD k []
def Plan.e (pl : Plan) (i : Nat) : Nat × SV := pl.ent.getD i (0, .raw undef)
def Plan.a (pl : Plan) (i j : Nat) : Bool := (pl.m.getD i []).contains j
def Plan.c (pl : Plan) (i : Nat) : Bool := pl.ch.contains i

def edgesB (o : Oper) : List Nat := (o.after.toList.filter (Region.binds .any)).map (·.on)

/-- the masks say no more than the edges do -/
def masksOk (l : List Oper) (m : List (List Nat)) : Bool :=
  (List.range l.length).all fun j => (List.range l.length).all fun i => !(m.getD j []).contains i ||
    ((l[j]?).map fun o => (edgesB o).any fun e => decide (e < j) && (e == i || (m.getD e []).contains i)).getD false

theorem masks_spec {l : List Oper} {m : List (List Nat)} (h : masksOk l m = true) {listed : Array Bool} (hcl : ∀ j oj, l[j]? = some oj → listed.getD j false = true → ∀ e ∈ oj.after, Region.binds .any e = true → listed.getD e.on false = true) :
    ∀ j i, i < l.length → j < l.length → (m.getD j []).contains i = true → listed.getD j false = true → listed.getD i false = true := by
  intro j
  induction j using Nat.strongRecOn with
  | _ j ih =>
    intro i hi hj hb hl
    have h1 := List.all_eq_true.1 (List.all_eq_true.1 h j (List.mem_range.2 hj)) i (List.mem_range.2 hi)
    rw [hb] at h1
    simp only [Bool.not_true, Bool.false_or] at h1
    have hlj : l[j]? = some l[j] := List.getElem?_eq_getElem hj
    rw [hlj] at h1
    simp only [Option.map_some, Option.getD_some, List.any_eq_true, Bool.and_eq_true, decide_eq_true_eq, Bool.or_eq_true, beq_iff_eq] at h1
    obtain ⟨e, he, hlt, h2⟩ := h1
    obtain ⟨ed, hed, rfl⟩ := List.mem_map.1 he
    obtain ⟨h3, h4⟩ := List.mem_filter.1 hed
    have h5 := hcl j _ hlj hl ed (by simpa using h3) h4
    rcases h2 with h2 | h2
    · rw [← h2]; exact h5
    · exact ih ed.on hlt i hi (by omega) h2 h5

/-- how many of the chain are done -/
def stage : List Nat → Array Bool → Nat
  | [], _ => 0
  | c :: ch, listed => if listed.getD c false then stage ch listed + 1 else 0

/-- each of the chain is ahead of the next -/
def chainOk (pl : Plan) (n : Nat) : List Nat → Bool
  | [] => true
  | [c] => decide (c < n)
  | c :: c' :: ch => decide (c < n) && pl.a c' c && chainOk pl n (c' :: ch)

/-- what operation i may lean on at stage k -/
def Plan.need (pl : Plan) (k i : Nat) : List (Nat × SV) := pl.B k ++ (List.range i).filterMap fun j => if pl.a i j && !(pl.c j) then some (pl.e j) else none
/-- all that is there -/
def Plan.all (pl : Plan) (n k : Nat) : List (Nat × SV) := pl.B k ++ (List.range n).filterMap fun j => if !(pl.c j) then some (pl.e j) else none

def Plan.lo (pl : Plan) (i : Nat) : Nat := (pl.ch.filter (pl.a i)).length
def Plan.hi (pl : Plan) (i : Nat) : Nat := (pl.ch.takeWhile fun c => !(pl.a c i)).length

def AllK (p : Nat → Prop) : Nat → Nat → Prop
  | _, 0 => True
  | k, n + 1 => p k ∧ AllK p (k + 1) n
theorem AllK.get {p : Nat → Prop} : ∀ {k n : Nat}, AllK p k n → ∀ j, k ≤ j → j < k + n → p j
  | k, 0, _, j, h1, h2 => by omega
  | k, n + 1, h, j, h1, h2 => by
    by_cases hj : j = k
    · subst hj; exact h.1
    · exact AllK.get h.2 j (by omega) (by omega)

def PureP (P : Program) (ops : Array Oper) (x : Cx) (pl : Plan) : Nat → List Oper → Prop
  | _, [] => True
  | i, o :: l => (pl.c i = false → AllK (fun k => OpY P ops x (pl.need k i) (pl.J k) o (pl.e i).2 (pl.J k) allp) (pl.lo i) (pl.hi i + 1 - pl.lo i)) ∧ PureP P ops x pl (i + 1) l

/-- one of the chain -/
structure Link (P : Program) (ops : Array Oper) (x : Cx) (pl : Plan) (n k c : Nat) (o : Oper) : Prop where
  ex : ∃ (p : Nat → Bool) (sv : SV) (idx : List Nat), OpY P ops x (pl.need k c) (pl.J k) o sv (pl.J (k + 1)) p ∧ pl.B (k + 1) = (match o.dst with | some d => [(d, sv)] | none => []) ++ pickL (pl.B k) idx ∧
    ((match o.dst with | some d => decide (d < x.N) && fresh d (pickL (pl.B k) idx) && fresh d (((List.range n).filterMap fun j => if !(pl.c j) then some (pl.e j) else none)) | none => true) &&
      okS p (pickL (pl.B k) idx) && okS p (((List.range n).filterMap fun j => if !(pl.c j) then some (pl.e j) else none)) && x.ids.all p) = true

def ChainP (P : Program) (ops : Array Oper) (x : Cx) (pl : Plan) (n : Nat) (l : List Oper) : Nat → List Nat → Prop
  | _, [] => True
  | k, c :: ch => (∀ o, l[c]? = some o → Link P ops x pl n k c o) ∧ ChainP P ops x pl n l (k + 1) ch

/-- slots that are added are new, and lie in the frame -/
def freshOk (pl : Plan) (N : Nat) (l : List Oper) : Bool :=
  (List.range l.length).all fun i => pl.c i || (((l[i]?).map fun o => o.dst == some (pl.e i).1).getD false && decide ((pl.e i).1 < N) && pl.base.all (fresh (pl.e i).1) &&
    ((List.range l.length).all fun j => pl.c j || j == i || !((pl.e j).1 == (pl.e i).1)))

structure Inv (x : Cx) (pl : Plan) (l : List Oper) (listed : Array Bool) (a : Act) (w : World) : Prop where
  size : listed.size = l.length
  closed : ∀ j oj, l[j]? = some oj → listed.getD j false = true → ∀ e ∈ oj.after, Region.binds .any e = true → listed.getD e.on false = true
  st : St x a w (pl.B (stage pl.ch listed) ++ (List.range l.length).filterMap fun j => if listed.getD j false && !(pl.c j) then some (pl.e j) else none) (pl.J (stage pl.ch listed))

theorem stage_lo {pl : Plan} {listed : Array Bool} : ∀ (ch : List Nat) (cs : List Nat), cs.Sublist ch → (∀ c ∈ cs, listed.getD c false = true) → (∀ j (h : j + 1 < ch.length), listed.getD (ch[j + 1]) false = true → listed.getD (ch[j]) false = true) → cs.length ≤ stage ch listed
  | [], cs, h, _, _ => by rw [List.sublist_nil.1 h]; simp
  | c :: ch, cs, h, h1, h2 => by
    have tail : ∀ cs' : List Nat, cs'.Sublist ch → (∀ c ∈ cs', listed.getD c false = true) → cs'.length ≤ stage ch listed := fun cs' h3 h4 =>
      stage_lo (pl := pl) ch cs' h3 h4 (fun j hj hl => by have := h2 (j + 1) (by simpa using hj); simpa using this (by simpa using hl))
    have first : ∀ cs' : List Nat, cs' ≠ [] → cs'.Sublist ch → (∀ c ∈ cs', listed.getD c false = true) → listed.getD c false = true := by
      intro cs' hne hsub hal
      -- some later one is listed: so is the first
      obtain ⟨c0, hc0⟩ := List.exists_mem_of_ne_nil cs' hne
      have hm := hsub.subset hc0
      obtain ⟨j, hj, hjj⟩ := List.getElem_of_mem hm
      have : ∀ j (hj : j < (c :: ch).length), listed.getD ((c :: ch)[j]) false = true → listed.getD c false = true := by
        intro j
        induction j with
        | zero => intro _ h; simpa using h
        | succ j ih => intro hj h; exact ih (by omega) (h2 j (by simpa using hj) h)
      exact this (j + 1) (by simpa using hj) (by simpa [hjj] using hal c0 hc0)
    cases h with
    | cons _ h =>
      by_cases hne : cs = []
      · subst hne; simp
      · have hc := first cs hne h h1
        have := tail cs h h1
        simp only [stage, hc, if_true]
        omega
    | cons_cons _ h =>
      rename_i cs'
      have hc := h1 c (by simp)
      have := tail cs' h (fun c' hc' => h1 c' (by simp [hc']))
      simp only [stage, hc, if_true, List.length_cons]
      omega

theorem stage_hi {listed : Array Bool} {q : Nat → Bool} : ∀ (ch : List Nat), (∀ c ∈ ch, q c = false → listed.getD c false = false) → stage ch listed ≤ (ch.takeWhile q).length
  | [], _ => by simp [stage]
  | c :: ch, h => by
    simp only [stage, List.takeWhile_cons]
    cases hq : q c with
    | true =>
      have := stage_hi ch (fun c' hc' => h c' (by simp [hc']))
      simp only [if_true, List.length_cons]
      split <;> omega
    | false =>
      rw [h c (by simp) hq]
      simp

theorem stage_set_ne {listed : Array Bool} {i : Nat} : ∀ (ch : List Nat), (∀ c ∈ ch, c ≠ i) → stage ch (listed.setIfInBounds i true) = stage ch listed
  | [], _ => rfl
  | c :: ch, h => by
    simp only [stage]
    rw [getD_set_ne false (Ne.symm (h c (by simp))), stage_set_ne ch (fun c' hc' => h c' (by simp [hc']))]

theorem chainOk_spec {pl : Plan} {n : Nat} : ∀ (ch : List Nat), chainOk pl n ch = true → (∀ c ∈ ch, c < n) ∧ ∀ j (h : j + 1 < ch.length), pl.a ch[j + 1] ch[j] = true
  | [], _ => ⟨by simp, by simp⟩
  | [c], h => ⟨by simpa [chainOk] using h, by simp⟩
  | c :: c' :: ch, h => by
    simp only [chainOk, Bool.and_eq_true, decide_eq_true_eq] at h
    obtain ⟨h1, h2⟩ := chainOk_spec (c' :: ch) h.2
    refine ⟨fun c0 hc0 => ?_, fun j hj => ?_⟩
    · rcases List.mem_cons.1 hc0 with rfl | hc0
      · exact h.1.1
      · exact h1 c0 hc0
    · cases j with
      | zero => exact h.1.2
      | succ j => exact h2 j (by simpa using hj)

theorem PureP.get {pl : Plan} : ∀ {i : Nat} {l : List Oper}, PureP P ops x pl i l → ∀ j o, l[j]? = some o → pl.c (i + j) = false → AllK (fun k => OpY P ops x (pl.need k (i + j)) (pl.J k) o (pl.e (i + j)).2 (pl.J k) allp) (pl.lo (i + j)) (pl.hi (i + j) + 1 - pl.lo (i + j))
  | _, [], _, j, o, h, _ => by simp at h
  | i, o' :: l, h, 0, o, hj, hc => by simp at hj; subst hj; exact h.1 hc
  | i, o' :: l, h, j + 1, o, hj, hc => by
    have := PureP.get h.2 j o (by simpa using hj)
    rw [show i + 1 + j = i + (j + 1) by omega] at this
    exact this hc

theorem ChainP.get {pl : Plan} {n : Nat} {l : List Oper} : ∀ {k : Nat} {ch : List Nat}, ChainP P ops x pl n l k ch → ∀ j (h : j < ch.length) o, l[ch[j]]? = some o → Link P ops x pl n (k + j) ch[j] o
  | _, [], _, j, h, _, _ => by simp at h
  | k, c :: ch, h, 0, _, o, ho => h.1 o ho
  | k, c :: ch, h, j + 1, hj, o, ho => by
    have := ChainP.get h.2 j (by simpa using hj) o (by simpa using ho)
    rw [show k + 1 + j = k + (j + 1) by omega] at this
    simpa using this

theorem stage_at {listed : Array Bool} : ∀ (ch : List Nat) (j : Nat) (h : j < ch.length), (∀ i (hi : i < j), listed.getD (ch[i]'(by omega)) false = true) → listed.getD ch[j] false = false → stage ch listed = j
  | [], j, h, _, _ => by simp at h
  | c :: ch, 0, _, _, h2 => by simp only [List.getElem_cons_zero] at h2; simp only [stage, h2]; rfl
  | c :: ch, j + 1, h, h1, h2 => by
    have h3 := h1 0 (by omega)
    simp only [List.getElem_cons_zero] at h3
    simp only [stage, h3, if_true]
    rw [stage_at ch j (by simpa using h) (fun i hi => by simpa using h1 (i + 1) (by omega)) (by simpa using h2)]

theorem stage_full {listed : Array Bool} : ∀ (ch : List Nat), (∀ i (hi : i < ch.length), listed.getD ch[i] false = true) → stage ch listed = ch.length
  | [], _ => rfl
  | c :: ch, h1 => by
    have h3 := h1 0 (by simp)
    simp only [List.getElem_cons_zero] at h3
    simp only [stage, h3, if_true, List.length_cons]
    rw [stage_full ch (fun i hi => by have := h1 (i + 1) (by simpa using hi); simpa using this)]

theorem stage_after {listed : Array Bool} : ∀ (ch : List Nat) (j : Nat) (h : j ≤ ch.length), (∀ i (hi : i < j), listed.getD (ch[i]'(by omega)) false = true) → (∀ (hj : j < ch.length), listed.getD ch[j] false = false) → stage ch listed = j
  | ch, j, h, h1, h2 => by
    by_cases hj : j < ch.length
    · exact stage_at ch j hj h1 (h2 hj)
    · have hj' : j = ch.length := by omega
      subst hj'
      exact stage_full ch (fun i hi => h1 i hi)

theorem St.drew {a : Act} {w : World} (h : St x a w S O) : St x a { w with drawn := w.drawn + 1 } S O := by
  obtain ⟨G, V, hs, hd, hN, hS, hI⟩ := h
  have hup : Upd (fun _ => False) w { w with drawn := w.drawn + 1 } := ⟨rfl, rfl, rfl, Nat.le_refl _, fun _ _ _ => rfl⟩
  exact ⟨G, V, hs.keep (p := allp) hup (fun _ f => f.elim) (fun _ h => h) (fun _ h => .inl h) (fun _ _ => rfl) (fun e he => ⟨he, rfl, Ob.ok_all _, fun _ _ f => f⟩), hd, hN, hS.step (p := allp) (okS_all S) (fun _ _ => rfl) (fun _ h => h) (fun _ _ => rfl), hI⟩

def acycOk (l : List Oper) : Bool := (List.range l.length).all fun j => ((l[j]?).map fun o => (edgesB o).all fun e => decide (e < j)).getD true

def left (n : Nat) (listed : Array Bool) : Nat := ((List.range n).filter fun i => !(listed.getD i false)).length

theorem left_set {n i : Nat} {listed : Array Bool} (hi : i < n) (hs : listed.size = n) (hu : listed.getD i false = false) : left n (listed.setIfInBounds i true) + 1 ≤ left n listed := by
  unfold left
  have h1 : (List.range n).filter (fun j => !((listed.setIfInBounds i true).getD j false)) = ((List.range n).filter (fun j => !(listed.getD j false))).filter (fun j => !(j == i)) := by
    rw [List.filter_filter]
    apply List.filter_congr
    intro j hj
    by_cases hji : j = i
    · subst hji
      have : (listed.setIfInBounds j true).getD j false = true := by simp [hs, hi]
      simp [this]
    · rw [getD_set_ne false (Ne.symm hji)]
      simp [hji]
  rw [h1]
  have h2 : i ∈ (List.range n).filter (fun j => !(listed.getD j false)) := List.mem_filter.2 ⟨List.mem_range.2 hi, by simp only [hu]; rfl⟩
  have h3 := List.length_filter_lt_length_iff_exists (p := fun j => !(j == i)) (l := (List.range n).filter (fun j => !(listed.getD j false)))
  have h4 := h3.2 ⟨i, h2, by simp⟩
  omega

theorem fmap_congr {β : Type 1} {f h : Nat → Option β} {l : List Nat} (hh : ∀ j ∈ l, f j = h j) : l.filterMap f = l.filterMap h := by
  induction l with
  | nil => rfl
  | cons j l ih => rw [List.filterMap_cons, List.filterMap_cons, hh j (by simp), ih fun j hj => hh j (by simp [hj])]
theorem chk_of {N d : Nat} {S : List (Nat × SV)} (h1 : d < N) (h2 : fresh d S = true) : chk N d S = true := by unfold chk; rw [h2, decide_eq_true h1]; rfl
theorem fresh_of {d : Nat} {S : List (Nat × SV)} (h : ∀ e ∈ S, e.1 ≠ d) : fresh d S = true := List.all_eq_true.2 fun e he => by simpa using h e he
theorem okS_of {p : Nat → Bool} {S : List (Nat × SV)} (h : ∀ e ∈ S, e.2.ok p = true) : okS p S = true := List.all_eq_true.2 h

/-- A REGION WHOSE ORDER IS OPEN. -/
theorem cw_draw {id : Nat} {l : List Oper} (pl : Plan) (hm : P.follows .mixedOrders = true) (hac : acycOk l = true) (hmask : masksOk l pl.m = true) (hch : chainOk pl l.length pl.ch = true) (hfr : freshOk pl x.N l = true)
    (hp : PureP P l.toArray x pl 0 l) (hc : ChainP P l.toArray x pl l.length l 0 pl.ch) (hend : Ex Q .normal x (pl.all l.length pl.ch.length) (pl.J pl.ch.length)) :
    Cw P (Code.region id l.toArray true) Q x (pl.B 0) (pl.J 0) := by
  obtain ⟨hchn, hcha⟩ := chainOk_spec pl.ch hch
  -- a listed operation's masks are listed
  have maskL : ∀ listed a w, Inv x pl l listed a w → ∀ j i, pl.a j i = true → i < l.length → j < l.length → listed.getD j false = true → listed.getD i false = true :=
    fun listed a w inv j i h1 h2 h3 h4 => masks_spec hmask inv.closed j i h2 h3 h1 h4
  -- and a ready one's
  have maskR : ∀ listed a w, Inv x pl l listed a w → ∀ i oi, l[i]? = some oi → (∀ e ∈ oi.after, Region.binds .any e = true → listed.getD e.on false = true) → ∀ j, pl.a i j = true → j < l.length → listed.getD j false = true := by
    intro listed a w inv i oi hi hall j h1 h2
    have hil := (List.getElem?_eq_some_iff.1 hi).1
    have h3 := List.all_eq_true.1 (List.all_eq_true.1 hmask i (List.mem_range.2 hil)) j (List.mem_range.2 h2)
    have h1' : (pl.m.getD i []).contains j = true := h1
    rw [h1', hi] at h3
    simp only [Bool.not_true, Bool.false_or, Option.map_some, Option.getD_some, List.any_eq_true, Bool.and_eq_true, decide_eq_true_eq, Bool.or_eq_true, beq_iff_eq] at h3
    obtain ⟨e, he, hlt, h4⟩ := h3
    obtain ⟨ed, hed, rfl⟩ := List.mem_map.1 he
    obtain ⟨h5, h6⟩ := List.mem_filter.1 hed
    have h7 := hall ed (by simpa using h5) h6
    rcases h4 with h4 | h4
    · rw [← h4]; exact h7
    · exact maskL listed a w inv ed.on j h4 h2 (by omega) h7
  have key : ∀ fuel listed a w, Inv x pl l listed a w → left l.length listed ≤ fuel → wpAny P .any l.toArray Q fuel listed a w := by
    intro fuel
    -- where all is done
    have fin : ∀ listed a w, Inv x pl l listed a w → (∀ i, i < l.length → listed.getD i false = true) → Q .normal a w := by
      intro listed a w inv hall
      have hst : stage pl.ch listed = pl.ch.length := stage_full pl.ch fun i hi => hall _ (hchn _ (List.getElem_mem hi))
      refine hend a w (inv.st.of ?_ ?_)
      · rw [hst]
        intro e he
        rcases List.mem_append.1 he with he | he
        · exact List.mem_append_left _ he
        · refine List.mem_append_right _ ?_
          obtain ⟨j, hj, h1⟩ := List.mem_filterMap.1 he
          refine List.mem_filterMap.2 ⟨j, hj, ?_⟩
          rw [hall j (List.mem_range.1 hj)]
          simpa using h1
      · rw [hst]; exact fun e he => he
    have ready_nil : ∀ listed a w, Inv x pl l listed a w → Region.ready .any l.toArray listed = [] → ∀ i, i < l.length → listed.getD i false = true := by
      intro listed a w inv hr
      intro i
      induction i using Nat.strongRecOn with
      | _ i ih =>
        intro hi
        cases hu : listed.getD i false with
        | true => rfl
        | false =>
          have hmem : i ∈ Region.ready .any l.toArray listed := by
            refine mem_ready.2 ⟨getD_in (by rw [inv.size]; exact hi) hu, l[i], by simp [hi], ?_⟩
            intro e he hb
            have h1 := List.all_eq_true.1 hac i (List.mem_range.2 hi)
            rw [List.getElem?_eq_getElem hi] at h1
            simp only [Option.map_some, Option.getD_some] at h1
            have h2 := List.all_eq_true.1 h1 e.on (List.mem_map.2 ⟨e, List.mem_filter.2 ⟨by simpa using he, hb⟩, rfl⟩)
            have h3 : e.on < i := by simpa using h2
            exact ih e.on h3 (by omega)
          rw [hr] at hmem
          cases hmem
    induction fuel with
    | zero =>
      intro listed a w inv hle
      have hall : ∀ i, i < l.length → listed.getD i false = true := by
        intro i hi
        cases hu : listed.getD i false with
        | true => rfl
        | false =>
          have := left_set hi inv.size hu
          omega
      refine ⟨?_, fin listed a w inv hall⟩
      cases hr : Region.ready .any l.toArray listed with
      | nil => rfl
      | cons i rs =>
        have hi : i ∈ Region.ready .any l.toArray listed := by rw [hr]; simp
        obtain ⟨h1, oi, h2, _⟩ := mem_ready.1 hi
        have hil : i < l.length := by have := (Array.getElem?_eq_some_iff.1 h2).1; simpa using this
        have := hall i hil
        rw [getD_both h1] at this
        cases this
    | succ fuel ih =>
      intro listed a w inv hle
      refine ⟨fun h => fin listed a w inv (ready_nil listed a w inv h), fun i hi => ?_⟩
      obtain ⟨hun, oi, hoi, hall⟩ := mem_ready.1 hi
      have hil : i < l.length := by have := (Array.getElem?_eq_some_iff.1 hoi).1; simpa using this
      have hoi' : l[i]? = some oi := by simpa using hoi
      have hunf := getD_both hun
      have hleft := left_set hil inv.size hunf
      have hancs := maskR listed a w inv i oi hoi' hall
      -- the new list
      have hsize : (listed.setIfInBounds i true).size = l.length := by simp [inv.size]
      have hclosed : ∀ j oj, l[j]? = some oj → (listed.setIfInBounds i true).getD j false = true → ∀ e ∈ oj.after, Region.binds .any e = true → (listed.setIfInBounds i true).getD e.on false = true := by
        intro j oj hj hl e he hb
        by_cases hij : i = j
        · subst hij
          have : oj = oi := Option.some.inj (hj.symm.trans hoi')
          subst this
          exact getD_set_true (hall e he hb)
        · rw [getD_set_ne false hij] at hl
          exact getD_set_true (inv.closed j oj hj hl e he hb)
      obtain ⟨G, V, hs, hd, hN, hS, hI⟩ := inv.st
      -- what an operation leans on is there
      have hneed : ∀ e ∈ pl.need (stage pl.ch listed) i, e ∈ pl.B (stage pl.ch listed) ++ (List.range l.length).filterMap (fun j => if listed.getD j false && !(pl.c j) then some (pl.e j) else none) := by
        intro e he
        rcases List.mem_append.1 he with he | he
        · exact List.mem_append_left _ he
        · refine List.mem_append_right _ ?_
          obtain ⟨j, hj, h1⟩ := List.mem_filterMap.1 he
          have hji : j < i := List.mem_range.1 hj
          refine List.mem_filterMap.2 ⟨j, List.mem_range.2 (by omega), ?_⟩
          by_cases h2 : (pl.a i j && !(pl.c j)) = true
          · rw [if_pos h2] at h1
            simp only [Bool.and_eq_true] at h2
            rw [if_pos (by rw [hancs j h2.1 (by omega)]; simpa using h2.2)]
            exact h1
          · rw [if_neg h2] at h1; cases h1
      cases hci : pl.c i with
      | false =>
        -- one of the others
        have hnch : ∀ c ∈ pl.ch, c ≠ i := by
          intro c hc e
          subst e
          have : pl.c c = true := List.contains_iff_mem.2 hc
          rw [hci] at this; cases this
        have hst : stage pl.ch (listed.setIfInBounds i true) = stage pl.ch listed := stage_set_ne pl.ch hnch
        have hlo : pl.lo i ≤ stage pl.ch listed := by
          refine stage_lo (pl := pl) pl.ch _ List.filter_sublist (fun c hc => ?_) (fun j hj hl => maskL listed a w inv _ _ (hcha j hj) (hchn _ (List.getElem_mem _)) (hchn _ (List.getElem_mem _)) hl)
          obtain ⟨h1, h2⟩ := List.mem_filter.1 hc
          exact hancs c h2 (hchn c h1)
        have hhi : stage pl.ch listed ≤ pl.hi i := by
          refine stage_hi pl.ch (fun c hc hq => ?_)
          have hq' : pl.a c i = true := by simpa using hq
          cases hlc : listed.getD c false with
          | false => rfl
          | true =>
            have := maskL listed a w inv c i hq' hil (hchn c hc) hlc
            rw [hunf] at this; cases this
        have h0 := PureP.get hp i oi hoi' (by rw [Nat.zero_add]; exact hci)
        rw [Nat.zero_add] at h0
        have hop := (h0.get (stage pl.ch listed) hlo (by omega)).mono hneed
        have hf := List.all_eq_true.1 hfr i (List.mem_range.2 hil)
        rw [hci, hoi'] at hf
        simp only [Bool.false_or, Option.map_some, Option.getD_some, Bool.and_eq_true, beq_iff_eq, decide_eq_true_eq] at hf
        obtain ⟨⟨⟨hdst, hdN⟩, hbase⟩, hents⟩ := hf
        have hfresh : fresh (pl.e i).1 (pl.B (stage pl.ch listed) ++ (List.range l.length).filterMap (fun j => if listed.getD j false && !(pl.c j) then some (pl.e j) else none)) = true := by
          refine fresh_of fun e he => ?_
          rcases List.mem_append.1 he with he | he
          · unfold Plan.B at he
            cases hb : pl.base[stage pl.ch listed]? with
            | none => rw [List.getD_eq_getElem?_getD, hb] at he; simp at he
            | some Bk =>
              rw [List.getD_eq_getElem?_getD, hb] at he
              exact fresh_ne (List.all_eq_true.1 hbase Bk (List.mem_of_getElem? hb)) e he
          · obtain ⟨j, hj, h1⟩ := List.mem_filterMap.1 he
            by_cases h2 : (listed.getD j false && !(pl.c j)) = true
            · rw [if_pos h2] at h1
              simp only [Option.some.injEq] at h1
              subst h1
              simp only [Bool.and_eq_true, Bool.not_eq_true'] at h2
              have h3 := List.all_eq_true.1 hents j hj
              rw [h2.2] at h3
              simp only [Bool.false_or, Bool.or_eq_true, beq_iff_eq, Bool.not_eq_true', beq_eq_false_iff_ne] at h3
              rcases h3 with h3 | h3
              · subst h3
                rw [hunf] at h2; simp at h2
              · exact h3
            · rw [if_neg h2] at h1; cases h1
        have h1 := hop a w G V hs hd hS
        have step : ∀ v w', Left x (pl.J (stage pl.ch listed)) allp (pl.e i).2 w G V v w' → wpAny P .any l.toArray Q fuel (listed.setIfInBounds i true) (a.put oi.dst v) w' := by
          rintro v w' ⟨G', V', hs', hg, hw, hV, hv⟩
          rw [hdst]
          refine ih _ _ _ ⟨hsize, hclosed, ?_⟩ (by omega)
          rw [hst]
          have hst' : St x (a.put (some (pl.e i).1) v) w' (((pl.e i).1, (pl.e i).2) :: (pl.B (stage pl.ch listed) ++ (List.range l.length).filterMap (fun j => if listed.getD j false && !(pl.c j) then some (pl.e j) else none))) (pl.J (stage pl.ch listed)) :=
            ⟨G', V', hs', hd, by show (a.tmps.setIfInBounds _ v).size = _; simpa using hN, hS.put (p := allp) hN (chk_of hdN hfresh) (okS_all _) hw hg hV hv, fun k hk => (hV k rfl).trans (hI k hk)⟩
          refine hst'.of ?_ (fun e he => he)
          intro e he
          rcases List.mem_append.1 he with he | he
          · exact List.mem_cons_of_mem _ (List.mem_append_left _ he)
          · obtain ⟨j, hj, h2⟩ := List.mem_filterMap.1 he
            by_cases hji : i = j
            · subst hji
              split at h2
              · simp only [Option.some.injEq] at h2
                rw [← h2]; exact List.mem_cons_self
              · cases h2
            · rw [getD_set_ne false hji] at h2
              exact List.mem_cons_of_mem _ (List.mem_append_right _ (List.mem_filterMap.2 ⟨j, hj, h2⟩))
        unfold wpOp
        rw [hoi]
        simp only
        split at h1
        · rename_i hw
          rw [if_pos hw]
          exact .inl (h1.wp step)
        · rename_i hw
          rw [if_neg hw]
          exact step _ _ h1
      | true =>
        -- one of the chain
        obtain ⟨k, hk, hki⟩ := List.getElem_of_mem (List.contains_iff_mem.1 hci)
        subst hki
        have hprev : ∀ i' (hi' : i' < k), listed.getD (pl.ch[i']'(by omega)) false = true := by
          -- the one before it is ahead of it; and so on
          have : ∀ d i' (hi' : i' + d + 1 = k), listed.getD (pl.ch[i']'(by omega)) false = true := by
            intro d
            induction d with
            | zero =>
              intro i' hi'
              have h1 := hcha i' (by omega)
              have h2 : pl.a pl.ch[k] (pl.ch[i']'(by omega)) = true := by
                have : i' + 1 = k := by omega
                subst this; exact h1
              exact hancs _ h2 (hchn _ (List.getElem_mem _))
            | succ d ihd =>
              intro i' hi'
              have h1 := ihd (i' + 1) (by omega)
              exact maskL listed a w inv _ _ (hcha i' (by omega)) (hchn _ (List.getElem_mem _)) (hchn _ (List.getElem_mem _)) h1
          intro i' hi'
          exact this (k - i' - 1) i' (by omega)
        have hst : stage pl.ch listed = k := stage_at pl.ch k hk hprev hunf
        have hst' : stage pl.ch (listed.setIfInBounds pl.ch[k] true) = k + 1 := by
          refine stage_after pl.ch (k + 1) (by omega) (fun i' hi' => ?_) (fun hj => ?_)
          · by_cases hik : i' = k
            · subst hik; simp [inv.size, hil]
            · exact getD_set_true (hprev i' (by omega))
          · have h1 := hcha k hj
            by_cases he : pl.ch[k] = pl.ch[k + 1]
            · -- an operation is not ahead of itself: the masks look back
              rw [← he] at h1
              exfalso
              have h2 := List.all_eq_true.1 (List.all_eq_true.1 hmask _ (List.mem_range.2 hil)) _ (List.mem_range.2 hil)
              have h3 := hancs _ h1 hil
              rw [hunf] at h3; cases h3
            · rw [getD_set_ne false he]
              cases hl : listed.getD (pl.ch[k + 1]'hj) false with
              | false => rfl
              | true =>
                have := maskL listed a w inv _ _ h1 hil (hchn _ (List.getElem_mem _)) hl
                rw [hunf] at this; cases this
        have hlink := ChainP.get hc k hk oi hoi'
        rw [Nat.zero_add] at hlink
        obtain ⟨p, sv, idx, hop, hB, hchk⟩ := hlink.ex
        rw [hst] at hneed hs hS
        have hop' := hop.mono hneed
        have h1 := hop' a w G V hs hd hS
        simp only [Bool.and_eq_true] at hchk
        obtain ⟨⟨⟨hdst, hok1⟩, hok2⟩, hids⟩ := hchk
        have hsub : ∀ e ∈ (List.range l.length).filterMap (fun j => if listed.getD j false && !(pl.c j) then some (pl.e j) else none), e ∈ (List.range l.length).filterMap (fun j => if !(pl.c j) then some (pl.e j) else none) := by
          intro e he
          obtain ⟨j, hj, h2⟩ := List.mem_filterMap.1 he
          refine List.mem_filterMap.2 ⟨j, hj, ?_⟩
          by_cases h3 : (listed.getD j false && !(pl.c j)) = true
          · rw [if_pos h3] at h2
            simp only [Bool.and_eq_true] at h3
            rw [if_pos h3.2]; exact h2
          · rw [if_neg h3] at h2; cases h2
        have hS0 : Slots x.N a w G V (pickL (pl.B k) idx ++ (List.range l.length).filterMap (fun j => if listed.getD j false && !(pl.c j) then some (pl.e j) else none)) := hS.sub (by
          intro e he
          rcases List.mem_append.1 he with he | he
          · exact List.mem_append_left _ (mem_pickL he)
          · exact List.mem_append_right _ he)
        have hok : okS p (pickL (pl.B k) idx ++ (List.range l.length).filterMap (fun j => if listed.getD j false && !(pl.c j) then some (pl.e j) else none)) = true := okS_of (by
          intro e he
          rcases List.mem_append.1 he with he | he
          · exact List.all_eq_true.1 hok1 e he
          · exact List.all_eq_true.1 hok2 e (hsub e he))
        have step : ∀ v w', Left x (pl.J (k + 1)) p sv w G V v w' → wpAny P .any l.toArray Q fuel (listed.setIfInBounds pl.ch[k] true) (a.put oi.dst v) w' := by
          rintro v w' ⟨G', V', hs', hg, hw, hV, hv⟩
          refine ih _ _ _ ⟨hsize, hclosed, ?_⟩ (by omega)
          rw [hst', hB]
          have hents : (List.range l.length).filterMap (fun j => if (listed.setIfInBounds pl.ch[k] true).getD j false && !(pl.c j) then some (pl.e j) else none) = (List.range l.length).filterMap (fun j => if listed.getD j false && !(pl.c j) then some (pl.e j) else none) := by
            refine fmap_congr fun j hj => ?_
            by_cases hji : pl.ch[k] = j
            · subst hji; simp [hci]
            · rw [getD_set_ne false hji]
          rw [hents]
          cases hdd : oi.dst with
          | none => exact ⟨G', V', hs', hd, hN, hS0.step hok hw hg hV, ids_keep hI hids hV⟩
          | some d =>
            rw [hdd] at hdst
            simp only [Bool.and_eq_true, decide_eq_true_eq] at hdst
            obtain ⟨⟨hdN, hf1⟩, hf2⟩ := hdst
            have hf : fresh d (pickL (pl.B k) idx ++ (List.range l.length).filterMap (fun j => if listed.getD j false && !(pl.c j) then some (pl.e j) else none)) = true := fresh_of (by
              intro e he
              rcases List.mem_append.1 he with he | he
              · exact fresh_ne hf1 e he
              · exact fresh_ne hf2 e (hsub e he))
            refine ⟨G', V', hs', hd, by show (a.tmps.setIfInBounds d v).size = _; simpa using hN, ?_, ids_keep hI hids hV⟩
            exact hS0.put hN (chk_of hdN hf) hok hw hg hV hv
        unfold wpOp
        rw [hoi]
        simp only
        split at h1
        · rename_i hw
          rw [if_pos hw]
          exact .inl (h1.wp step)
        · rename_i hw
          rw [if_neg hw]
          exact step _ _ h1
  intro a w hs
  refine wp_region_any hm ?_
  have hz : stage pl.ch (Array.replicate l.toArray.size false) = 0 := by
    cases pl.ch with
    | nil => rfl
    | cons c ch => simp only [stage, getD_replicate_false]; rfl
  refine key _ _ _ _ ⟨by simp, ?_, ?_⟩ ?_
  · intro j oj _ hl
    rw [getD_replicate_false] at hl; cases hl
  · rw [hz]
    refine hs.drew.of ?_ (fun e he => he)
    intro e he
    rcases List.mem_append.1 he with he | he
    · exact he
    · obtain ⟨j, _, h2⟩ := List.mem_filterMap.1 he
      rw [getD_replicate_false] at h2
      simp at h2
  · unfold left
    have := List.length_filter_le (fun i => !((Array.replicate l.toArray.size false).getD i false)) (List.range l.length)
    simpa using this

end
end Go.Dl
