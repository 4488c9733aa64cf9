/- The data level, eleventh text: slices.Sort and slices.Compact at []int, from the kit's contracts. -/
import Derived.Test.YtbalmknhjokgaaaDlGen
import Derived.Test.YtbalmknhjokgaaaDlFs
import Derived.Shelf.Sort.Plain
import Derived.Shelf.Slices.In.SortNone
import Derived.Shelf.Slices.CompactI
import Derived.Sort.OwnSortedInts
import Derived.Lib.OwnBridge
set_option linter.unusedVariables false
namespace Go.Dl
open Go Go.RowKit Go.Proofs Go.Sort Go.Shelf

theorem rows_int {w : World} {G : Good} : ∀ {l : List Int} {xs : List Value}, cellsRd w G xs (l.flatMap cI) → xs = l.map (Value.int .i64)
  | [], [], _ => rfl
  | [], _ :: _, h => by simp [cellsRd] at h
  | y :: l, xs, h => by
    simp only [List.flatMap_cons, cI, List.singleton_append] at h
    cases xs with
    | nil => exact h.elim
    | cons u us =>
      have h1 : u = .int .i64 y := h.1
      rw [h1, rows_int h.2]; rfl
theorem int_rows {w : World} {G : Good} : ∀ (l : List Int), cellsRd w G (l.map (Value.int .i64)) (l.flatMap cI)
  | [] => trivial
  | y :: l => ⟨rfl, int_rows l⟩

variable {P : Program} {ρ : Ren}

theorem sort_fn (Ly : Lays.n189 P ρ) (t N : Nat) (l r : List Int) (h : slices_Sort N l = some r) : Fn P (ρ.f 189) [.ref 1] [(1, .row t 1 cI l)] (.tup []) [(1, .row t 1 cI r)] := by
  unfold slices_Sort at h
  rw [← mergeSort_isort] at h
  split at h
  · rename_i hl
    cases h
    intro w G V vs hs hv
    obtain ⟨v, r', rfl, h1, h2⟩ := hv
    have h2' : r' = [] := h2
    have h1' : v = V 1 := h1
    subst h2' h1'
    obtain ⟨xs, hown, hcells, hcl⟩ := hs.obs (1, .row t 1 cI l) (by simp)
    have hxs := rows_int hcells
    subst hxs
    have fin : ∀ w', Upd (fun b => blkR (V 1) = some b) w w' → ownsR w' t 1 (V 1) l.length ((l.mergeSort fun x y => decide (x ≤ y)).map (Value.int .i64)) →
        ∃ v G' V', Ending.returned (.tuple #[]) = .returned v ∧ Sep (outer w G V [(1, .row t 1 cI l)]) w' G' V' [(1, .row t 1 cI (l.mergeSort fun x y => decide (x ≤ y)))] ∧ (SV.tup []).holds w' G' V' v ∧ ∀ e ∈ [(1, Ob.row t 1 cI l)], V' e.1 = V e.1 := by
      intro w' hup hown'
      refine ⟨_, G, V, rfl, ?_, ⟨[], rfl, rfl⟩, fun _ _ => rfl⟩
      refine hs.turnIn (k := 1) (old := .row t 1 cI l) (by simp) hup ⟨_, ?_, int_rows _, fun _ _ => rfl⟩
      rw [List.length_mergeSort]; exact hown'
    rcases ownsRow_cases hown with ⟨a0, hv, hm, _⟩ | ⟨b, cap, cur, hv, hle, hcap, hb, hsz, hxl, htk, hc0⟩
    · have hl0 : l = [] := List.eq_nil_of_length_eq_zero hm
      subst hl0
      have hc := Any.slices_Sort_int_none Ly a0 0 w
      rw [hv]
      refine hc.mono ?_
      rintro e w' ⟨rfl, rfl⟩
      exact fin _ (Upd.refl _ _) (by rw [hv]; simp; exact .inr ⟨rfl, rfl, _, rfl⟩)
    · have hbs := block_lt hb
      have hc := Any.slices_Sort_int Ly b 0 cap l w (holds_of_blockI hb (by simpa using htk)) hbs (by unfold LIM at hl; omega)
      rw [hv]
      refine hc.mono ?_
      rintro e w' ⟨rfl, n, os, rfl⟩
      refine fin _ ?_ ?_
      · refine (Upd.of_grown (grownBy_sortedI _)).trans (Upd.refl (fun _ => False) _) (fun i hi _ => hi.elim) |> fun h => ⟨h.os, h.tape, h.output, h.size, fun k hk hE => h.block k hk (fun hb' => hE ?_)⟩
        rw [hv, blkR_mk hc0]; exact hb'
      · rw [hv]
        exact .inl (ownsRow_sortedI (List.length_mergeSort _) (Nat.zero_le _) hb hle hcap hsz)
  · cases h

theorem compact_fn (Ly : Lays2.n20 P ρ) (t N : Nat) (l r : List Int) (h : slices_Compact N l = some r) : Fn P (ρ.f 20) [.ref 1] [(1, .row t 1 cI l)] (.ref 11) [(11, .row t 1 cI r)] := by
  unfold slices_Compact at h
  split at h
  · rename_i hl
    cases h
    intro w G V vs hs hv
    obtain ⟨v, r', rfl, h1, h2⟩ := hv
    have h2' : r' = [] := h2
    have h1' : v = V 1 := h1
    subst h2' h1'
    obtain ⟨xs, hown, hcells, hcl⟩ := hs.obs (1, .row t 1 cI l) (by simp)
    have hxs := rows_int hcells
    subst hxs
    have hG : ∀ b, blkR (V 1) = some b → ¬ G b := fun b hb => (hs.own (1, .row t 1 cI l) (by simp) b hb).2.1
    have hlt : ∀ b, blkR (V 1) = some b → b < w.heap.size := fun b hb => (hs.own (1, .row t 1 cI l) (by simp) b hb).1
    have fin : ∀ w' v', Upd (fun b => blkR (V 1) = some b) w w' → ownsR w' t 1 v' (Lib.compact l).length ((Lib.compact l).map (Value.int .i64)) → blkR v' = blkR (V 1) →
        ∃ v G' V', Ending.returned v' = .returned v ∧ Sep (outer w G V [(1, .row t 1 cI l)]) w' G' V' [(11, .row t 1 cI (Lib.compact l))] ∧ (SV.ref 11).holds w' G' V' v ∧ ∀ e ∈ [(1, Ob.row t 1 cI l)], V' e.1 = V e.1 := by
      intro w' v' hup hown' hbl
      refine ⟨_, G, setV V 11 v', rfl, ?_, ?_, ?_⟩
      · refine (hs.turn (id := 11) (O1 := []) hup (fun b hb => ⟨hG b hb, .inr ⟨⟨(1, .row t 1 cI l), by simp, hb⟩, rfl⟩⟩) (fun e he => by simp at he) rfl ⟨_, hown', int_rows _, fun _ _ => rfl⟩ ?_)
        intro b hb
        have hb : blkR v' = some b := hb
        rw [hbl] at hb
        exact ⟨Nat.lt_of_lt_of_le (hlt b hb) hup.size, .inl hb⟩
      · show v' = setV V 11 v' 11
        rw [setV_same]
      · intro e he
        simp only [List.mem_singleton] at he
        subst he
        exact setV_ne (show (1 : Nat) ≠ 11 by decide)
    rcases ownsRow_cases hown with ⟨a0, hv, hm, _⟩ | ⟨b, cap, cur, hv, hle, hcap, hb, hsz, hxl, htk, hc0⟩
    · have hl0 : l = [] := List.eq_nil_of_length_eq_zero hm
      subst hl0
      have hc := Any.slices_Compact_int_empty Ly a0 0 w
      rw [hv]
      refine hc.mono ?_
      rintro e w' ⟨rfl, rfl⟩
      exact fin _ _ (Upd.refl _ _) (.inr ⟨rfl, rfl, _, rfl⟩) (by rw [hv])
    · have hbs := block_lt hb
      have hc := Any.slices_Compact_int Ly b 0 cap l w (holds_of_blockI hb (by simpa using htk)) (by unfold LIM at hl; omega) hle
      rw [hv]
      refine hc.mono ?_
      rintro e w' ⟨rfl, q, rfl⟩
      have hcl := Lib.compact_length_le l
      refine fin _ _ ?_ ?_ ?_
      · have hg : w.grownBy (putRow (Value.int .i64) (Sort.ahead w q) b 0 (Lib.compact l ++ List.replicate (l.length - (Lib.compact l).length) 0).toArray) (some b) := by
          have := grownBy_sortedI (w := w) (g := b) (n := q) (os := #[]) (Lib.compact l ++ List.replicate (l.length - (Lib.compact l).length) 0).toArray
          rwa [grow_empty] at this
        have h := Upd.of_grown hg
        exact ⟨h.os, h.tape, h.output, h.size, fun k hk hE => h.block k hk (fun hb' => hE (by rw [hv, blkR_mk hc0]; exact hb'))⟩
      · have hown0 : w.ownsRow 0 t 1 (.slice (some ⟨b, 0, none⟩) l.length cap) l.length (l.map (Value.int .i64)) := ⟨by simp, .inr ⟨b, cap, cur, rfl, Nat.zero_le _, hb, hle, hcap, hsz, htk⟩⟩
        have := Lib.ownsRow_putRow (q := q) (k := (Lib.compact l).length) (ys := Lib.compact l ++ List.replicate (l.length - (Lib.compact l).length) 0) hown0 (by simp; omega) hcl
        rw [List.take_left] at this
        exact .inl this
      · rw [hv, blkR_mk hc0, blkR_mk hc0]
  · cases h
end Go.Dl
