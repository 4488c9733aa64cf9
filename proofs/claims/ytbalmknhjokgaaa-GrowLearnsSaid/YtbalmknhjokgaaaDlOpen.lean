/- The data level, thirteenth text: what a caller hands in, opened. -/
import Derived.Test.YtbalmknhjokgaaaDlGen
import Derived.ProofKit
import Derived.OpenShut
import Derived.ShutString
import Derived.ChangeOld
import Derived.Below
import Derived.Deep.Slices
set_option linter.unusedVariables false
namespace Go.Dl
open Go Go.RowKit Go.ChangeShapes Go.WideShapes

/-- Whatever reads as a t is the cells of some datum of which ok holds. -/
def Opens (P : Program) (t n : Nat) {α : Type} (c : α → List It) (ok : α → Prop) : Prop :=
  P.cellsOf t = n ∧ (∀ y, (c y).length = n) ∧ ∀ (H : Type) (enc : TypeId × Value → H) (w : World) (base : Nat) (spare : Nat → Bool) (held : Bool) (fuel : Nat) (cs : List Value) (x : DataW H × List MemPlace),
    DataW.trod enc P w base spare held fuel t cs = some x → ∃ y : α, ok y ∧ cellsRd w (fun k => k < w.heap.size) cs (c y)

section
variable {P : Program}
theorem opens_int {t : TypeId} {k : IntKind} (h : P.underlying t = some (.int k)) (hn : P.cellsOf t = 1) : Opens P t 1 (fun x => [iK k x]) (fun x => (Lit.int k x).wf = true) :=
  ⟨hn, fun _ => rfl, fun H enc w base spare held fuel cs x hx => by
    obtain ⟨n, rfl, _, hw⟩ := DataW.trod_int h hx
    exact ⟨n, hw, rfl, trivial⟩⟩
theorem opens_bool {t : TypeId} (h : P.underlying t = some .bool) (hn : P.cellsOf t = 1) : Opens P t 1 (fun x => [iB x]) (fun _ => True) :=
  ⟨hn, fun _ => rfl, fun H enc w base spare held fuel cs x hx => by
    obtain ⟨n, rfl, _⟩ := DataW.trod_bool h hx
    exact ⟨n, trivial, rfl, trivial⟩⟩
theorem opens_str {t : TypeId} (h : P.underlying t = some .string) (hn : P.cellsOf t = 1) : Opens P t 1 (fun x => [iStr x]) (fun s => s.size ≤ maxLen) :=
  ⟨hn, fun _ => rfl, fun H enc w base spare held fuel cs x hx => by
    obtain ⟨n, rfl, _, hl⟩ := DataW.trod_string h hx
    exact ⟨n, hl, rfl, trivial⟩⟩

theorem cell_lt {w : World} {b o : Nat} {v : Value} (h : w.cell? ⟨b, o, none⟩ = some v) : b < w.heap.size := by
  rcases Nat.lt_or_ge b w.heap.size with h' | h'
  · exact h'
  · have hn : w.heap[b]? = none := Array.getElem?_eq_none h'
    unfold World.cell? at h
    simp [hn] at h

theorem cellsRd.atList {w : World} {G : Good} {b off : Nat} : ∀ {us : List Value} {its : List It}, cellsRd w G us its → (∀ j (h : j < us.length), w.cell? ⟨b, off + j, none⟩ = some us[j]) → cellsAt w G b off its := by
  intro us its h hc j hj
  have hl := cellsRd.length h
  exact ⟨us[j]'(by omega), hc j (by omega), cellsRd.get h j hj (by omega)⟩

theorem opens_slice {t e n : Nat} {α : Type} {c : α → List It} {ok : α → Prop} (h : P.underlying t = some (.slice e)) (hn : P.cellsOf t = 1) (hpos : 0 < n) (he : Opens P e n c ok) : Opens P t 1 (fun l : List α => [iSL n c l]) (fun l => l.length ≤ maxLen ∧ ∀ y ∈ l, ok y) :=
  ⟨hn, fun _ => rfl, fun H enc w base spare held fuel cs x hx => by
    obtain ⟨hc, hcl, hop⟩ := he
    rcases Go.Deep.open_slice h hx with ⟨rfl, _⟩ | ⟨a, len, cap, m, k, D, Pl, rfl, hb, hl, hm, hmm, _, hel⟩
    · exact ⟨[], ⟨Nat.zero_le _, by simp⟩, ⟨none, 0, rfl, Nat.le_refl _, fun h => absurd rfl h⟩, trivial⟩
    · have hlm : len ≤ m := by rw [hmm]; split <;> omega
      have each : ∀ i, i < len → ∃ y : α, ok y ∧ ∃ cs', w.cells? base (a.add (i * n)) n = some cs' ∧ cellsRd w (fun k => k < w.heap.size) cs' (c y) := by
        intro i hi
        obtain ⟨cs', h1, h2⟩ := hel i (by omega)
        rw [hc] at h1
        obtain ⟨y, hy, hr⟩ := hop H enc w base spare held k cs' _ h2
        exact ⟨y, hy, cs', h1, hr⟩
      have pick : ∀ m, m ≤ len → ∃ l : List α, l.length = m ∧ ∀ i (hi : i < l.length), ok l[i] ∧ ∃ cs', w.cells? base (a.add (i * n)) n = some cs' ∧ cellsRd w (fun k => k < w.heap.size) cs' (c l[i]) := by
        intro m
        induction m with
        | zero => exact fun _ => ⟨[], rfl, by simp⟩
        | succ m ih =>
          intro hm
          obtain ⟨l, hl, hp⟩ := ih (by omega)
          obtain ⟨y, hy⟩ := each m (by omega)
          refine ⟨l ++ [y], by simp [hl], fun i hi => ?_⟩
          by_cases hil : i < l.length
          · rw [List.getElem_append_left hil]; exact hp i hil
          · have : i = m := by simp at hi; omega
            subst this
            rw [List.getElem_append_right (by omega)]
            simpa [hl] using hy
      obtain ⟨l, hll, hp⟩ := pick len (Nat.le_refl _)
      refine ⟨l, ⟨by omega, fun y hy => ?_⟩, ⟨some a, cap, by rw [hll], by show l.length ≤ cap; omega, fun hne => ?_⟩, trivial⟩
      · obtain ⟨i, hi, rfl⟩ := List.getElem_of_mem hy
        exact (hp i hi).1
      · have h0 : 0 < l.length := List.length_pos_iff.2 hne
        obtain ⟨_, cs', h1, h2⟩ := hp 0 h0
        obtain ⟨_, h4, h5⟩ := World.cells?_some h1
        have h6 := h5 0 hpos
        obtain ⟨b, off, spot⟩ := a
        rw [List.getElem?_eq_getElem (by omega)] at h6
        have hspot : spot = none := by simpa [Addr.add] using World.cell?_spot h6
        subst hspot
        have hblk : b < w.heap.size := by
          have h7 : w.cell? ⟨b, off + 0 * n + 0, none⟩ = some cs'[0] := by simpa [addr_add, Nat.add_assoc] using h6
          exact cell_lt h7
        refine ⟨b, off, rfl, hblk, fun i hi => ?_⟩
        obtain ⟨_, cs2, g1, g2⟩ := hp i hi
        obtain ⟨_, g4, g5⟩ := World.cells?_some g1
        refine cellsRd.atList g2 fun j hj => ?_
        have := g5 j (by omega)
        rw [List.getElem?_eq_getElem hj] at this
        simpa [addr_add, Nat.add_assoc] using this⟩

/-- the fields of a struct: type, place, size -/
def structL (P : Program) (t : TypeId) : Option (List (TypeId × Nat × Nat)) :=
  match P.underlying t with
  | some (.struct fs) => some (fs.toList.map fun f => (f.type, f.offset, P.cellsOf f.type))
  | _ => none

/-- fields from a place on -/
def OpensF (P : Program) (tot : Nat) (L : List (TypeId × Nat × Nat)) (off : Nat) {β : Type} (c : β → List It) (ok : β → Prop) : Prop :=
  off ≤ tot ∧ (∀ y, (c y).length = tot - off) ∧ ∀ (H : Type) (enc : TypeId × Value → H) (w : World) (base : Nat) (spare : Nat → Bool) (held : Bool) (fuel : Nat) (cs : List Value), cs.length = tot →
    (∀ f ∈ L, ∃ x, DataW.trod enc P w base spare held fuel f.1 ((cs.drop f.2.1).take f.2.2) = some x) → ∃ y : β, ok y ∧ cellsRd w (fun k => k < w.heap.size) (cs.drop off) (c y)

theorem opensF_nil {tot : Nat} : OpensF P tot [] tot (fun _ : Unit => []) (fun _ => True) :=
  ⟨Nat.le_refl _, fun _ => by simp, fun H enc w base spare held fuel cs hl _ => ⟨(), trivial, by rw [List.drop_eq_nil_of_le (by omega)]; trivial⟩⟩

theorem opensF_cons {tot t off n : Nat} {L : List (TypeId × Nat × Nat)} {α β : Type} {c : α → List It} {ok : α → Prop} {c2 : β → List It} {ok2 : β → Prop} (h : Opens P t n c ok) (r : OpensF P tot L (off + n) c2 ok2) :
    OpensF P tot ((t, off, n) :: L) off (fun y : α × β => c y.1 ++ c2 y.2) (fun y => ok y.1 ∧ ok2 y.2) := by
  obtain ⟨hc, hcl, hop⟩ := h
  obtain ⟨hle, hl2, hr⟩ := r
  refine ⟨by omega, fun y => by simp [hcl, hl2]; omega, fun H enc w base spare held fuel cs hl hf => ?_⟩
  obtain ⟨x, hx⟩ := hf (t, off, n) (by simp)
  obtain ⟨y, hy, hyr⟩ := hop H enc w base spare held fuel _ x hx
  obtain ⟨z, hz, hzr⟩ := hr H enc w base spare held fuel cs hl (fun f hf' => hf f (List.mem_cons_of_mem _ hf'))
  refine ⟨(y, z), ⟨hy, hz⟩, ?_⟩
  have : cs.drop off = (cs.drop off).take n ++ cs.drop (off + n) := by rw [← List.drop_drop, List.take_append_drop]
  rw [this]
  exact cellsRd.append hyr hzr

theorem opens_struct {t tot : Nat} {L : List (TypeId × Nat × Nat)} {α β : Type} {c : α → List It} {ok : α → Prop} {c2 : β → List It} {ok2 : β → Prop} (hs : structL P t = some L) (hn : P.cellsOf t = tot) (hcl : ∀ y, (c y).length = tot)
    (r : OpensF P tot L 0 c2 ok2) (f : β → α) (hc : ∀ y, c (f y) = c2 y) (hok : ∀ y, ok2 y → ok (f y)) : Opens P t tot c ok := by
  refine ⟨hn, hcl, fun H enc w base spare held fuel cs x hx => ?_⟩
  unfold structL at hs
  split at hs
  · rename_i fs hu
    cases hs
    obtain ⟨xs, n, rfl, _, hlen, hxl, hf⟩ := DataW.trod_struct hu hx
    obtain ⟨y, hy, hr⟩ := r.2.2 H enc w base spare held n cs (by rw [hlen, hn]) (fun g hg => by
      obtain ⟨fd, hfd, rfl⟩ := List.mem_map.1 hg
      obtain ⟨i, hi, rfl⟩ := List.getElem_of_mem hfd
      have hi' : i < fs.size := by simpa using hi
      have := hf i fs[i] (by simp [hi'])
      rw [List.getElem?_eq_getElem (by omega)] at this
      exact ⟨_, by simpa using this⟩)
    rw [List.drop_zero] at hr
    exact ⟨f y, hok y hy, by rw [hc]; exact hr⟩
  · cases hs

/-- what a walk gives, as the row's step wants it -/
theorem Fn.law {f : FuncId} {as : List SV} {res : SV} {w : World} {vs : List Value} (hgl : Gl w (fun k => k < w.heap.size)) (h : Fn P f as [] res []) (ha : SV.holdsL w (fun k => k < w.heap.size) (fun _ => undef) as vs) {R : Value → Prop} (hR : ∀ w G V v, res.holds w G V v → R v) :
    Calls P f vs.toArray w fun e w' => (∃ v, e = .returned v ∧ R v) ∧ Below w.heap.size w w' := by
  refine (h w (fun k => k < w.heap.size) (fun _ => undef) vs ?_ ha).mono ?_
  · exact ⟨Upd.refl _ _, fun _ h => h, fun _ h => h, fun _ h => .inl h, by simp, by simp, by simp, hgl⟩
  · rintro e w' ⟨v, G', V', rfl, hs, hr, _⟩
    refine ⟨⟨v, rfl, hR _ _ _ _ hr⟩, ?_⟩
    have hu := hs.up
    exact ⟨hu.os, hu.tape, hu.output, hu.size, fun k hk => hu.block k hk (by rintro ⟨e, he, _⟩; simp at he)⟩
end
end Go.Dl
