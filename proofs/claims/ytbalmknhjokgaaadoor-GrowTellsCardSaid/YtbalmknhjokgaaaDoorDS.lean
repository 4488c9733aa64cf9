/- The library's contracts laid at this program. -/
import Derived.Test.YtbalmknhjokgaaaDoorShelf
import Derived.Test.YtbalmknhjokgaaaDoorDlSort
import Derived.Test.YtbalmknhjokgaaaDoorDT
import Derived.Test.YtbalmknhjokgaaaDoorTold
namespace Go.Dl
open Go Go.Proofs
theorem f150_fn (N : Nat) (l r : List Int) (h : slices_Sort N l = some r) : Fn Tryd.prog 150 [.ref 1] [(1, .row 3 1 cI l)] (.tup []) [(1, .row 3 1 cI r)] := by
  have e : Tryd.laysSort_ren.f 189 = 150 := by kernel_rfl
  rw [← e]; exact sort_fn Tryd.laysSort 3 N l r h
theorem f151_fn (N : Nat) (l r : List Int) (h : slices_Compact N l = some r) : Fn Tryd.prog 151 [.ref 1] [(1, .row 3 1 cI l)] (.ref 11) [(11, .row 3 1 cI r)] := by
  have e : Tryd.laysCompact_ren.f 20 = 151 := by kernel_rfl
  rw [← e]; exact compact_fn Tryd.laysCompact 3 N l r h
theorem f68_fn (N : Nat) (e : Option Int) (r : Int) (h : plain_Told N e = some r) : Fn Tryd.prog 68 [Er TE e] [] (I r) [] := by
  cases h
  intro w G V vs hs hv
  obtain ⟨v, r', rfl, h1, h2⟩ := hv
  have h2' : r' = [] := h2
  have h1' : v = errV TE e := h1
  subst h2' h1'
  cases e with
  | none =>
    refine (Go.Proofs.Told.told_none w).mono ?_
    rintro e w' ⟨rfl, rfl⟩
    exact ⟨_, G, V, rfl, hs, rfl, fun _ h => by simp at h⟩
  | some n =>
    have hg := (hs.gl (0, 0, .iface 277 (.agg #[.pointer (some ⟨9, 32, none⟩)])) (by simp [gls])).2
    refine (Go.Proofs.Told.told_some n w hg).mono ?_
    rintro e w' ⟨rfl, rfl⟩
    have up : ∀ (a : World) (o : Obj), Upd (fun _ => False) w a → Upd (fun _ => False) w (a.alloc o) := fun a o h => h.trans (Upd.alloc a o (fun _ => False)) (fun _ f _ => False.elim f)
    have hup := up _ (.cells #[.int .i64 n] 123) (up _ (.cells #[.pointer (some ⟨9, 193, none⟩), .pointer (some ⟨w.heap.size + 1, 0, none⟩), .int .u64 150] 238) (up _ (.cells #[.pointer (some ⟨9, 193, none⟩), .pointer (some ⟨w.heap.size + 1, 0, none⟩), .int .u64 150] 238) (up _ (.cells #[.pointer (some ⟨w.heap.size, 0, none⟩)] 193) (up w (.cells #[.int .i64 n] 123) (Upd.refl _ _)))))
    exact ⟨_, G, V, rfl, hs.keep (p := allp) hup (fun _ f => False.elim f) (fun _ h => h) (fun _ h => .inl h) (fun _ _ => rfl) (fun e he => ⟨he, rfl, Ob.ok_all _, fun _ _ f => f⟩), rfl, fun _ h => by simp at h⟩
end Go.Dl
