/-
  What the library's functions read: variables of the library that a statement lists.
-/
import Derived.Test.YtbpeienllhbffaaDoorCfCheck
import Derived.Test.YtbpeienllhbffaaDoorShelfD
namespace Go.Proofs.YtbpeienllhbffaaDoor
set_option linter.unusedSimpArgs false
set_option linter.unusedVariables false
open Go.RowKit Go.Shelf

/-- The listed variables read as they are laid. -/
structure Env (w : World) : Prop where
  size : 6 ≤ w.heap.size
  tab : Lib.TabIs Tryd.prog w "internal/strconv.uint64pow10" .u64 Lib.pow10Tab
  syn : ∃ t p, w.var? Tryd.prog "strconv.ErrSyntax" = some #[.iface t p]
  ran : ∃ t p, w.var? Tryd.prog "strconv.ErrRange" = some #[.iface t p]
  max : ∃ m, w.cell? ⟨0, 0, none⟩ = some (.int .i64 m)
theorem var_eq {w w' : World} {name : String} {g : Nat} {r : Option (Array Value)} (hg : Tryd.prog.globalNamed name = some g) (he : w'.heap[g]? = w.heap[g]?) (h : w.var? Tryd.prog name = r) : w'.var? Tryd.prog name = r := by
  unfold World.var? at h ⊢
  rw [hg] at h ⊢
  simp only [Option.bind_some] at h ⊢
  rw [he]
  exact h
theorem Env.eq {w w' : World} (h : Env w) (hs : w.heap.size ≤ w'.heap.size) (he : ∀ k < 6, w'.heap[k]? = w.heap[k]?) : Env w' := by
  obtain ⟨t1, p1, h1⟩ := h.syn
  obtain ⟨t2, p2, h2⟩ := h.ran
  obtain ⟨m, h3⟩ := h.max
  refine ⟨Nat.le_trans h.size hs, var_eq (g := 5) (by kernel_rfl) (he 5 (by omega)) h.tab, ⟨t1, p1, var_eq (g := 3) (by kernel_rfl) (he 3 (by omega)) h1⟩, ⟨t2, p2, var_eq (g := 4) (by kernel_rfl) (he 4 (by omega)) h2⟩, m, ?_⟩
  exact (World.cell?_of_block (w := w) (a := ⟨0, 0, none⟩) (he 0 (by omega))).trans h3
theorem Env.below {w w' : World} {B : Nat} (h : Env w) (hb : Below B w w') (hB : 6 ≤ B) : Env w' := h.eq hb.size fun k hk => hb.block k (by omega)
theorem Env.later {w w' : World} (h : Env w) (hb : Below w.heap.size w w') : Env w' := h.below hb h.size
theorem Env.only {S : List Nat} {w w' : World} (h : Env w) (ho : Only S w w') (hS : ∀ x ∈ S, 6 ≤ x) : Env w' := h.eq ho.size fun k hk => ho.block k (by have := h.size; omega) (fun hm => by have := hS k hm; omega)
end Go.Proofs.YtbpeienllhbffaaDoor
