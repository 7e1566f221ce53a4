/-
  The statements of the sets of ranges: works.
-/
import Derived.Test.YtkmfhcjdajbbhaaSpanLawA
import Derived.Test.YtkmfhcjdajbbhaaSpanAdd2
namespace Go.Proofs.Ytkmfhcjdajbbhaa
set_option linter.unusedSimpArgs false
set_option linter.unusedVariables false
open Go.RowKit

/-- A set of a call's own. -/
structure SAt (w W : World) (b : Nat) (g : Option Nat) (room : Nat) (rs : List Rg) : Prop where
  set : IsSet W b g room rs
  nb : w.heap.size ≤ b
  ng : ∀ k, g = some k → w.heap.size ≤ k
  below : Below w.heap.size w W
section
variable {w W w' : World} {b room : Nat} {g : Option Nat} {rs ys : List Rg} {e : Ending}
theorem SAt.later (h : SAt w W b g room rs) (hb : Below W.heap.size W w') : SAt w w' b g room rs := ⟨h.set.below hb, h.nb, h.ng, bw_below' h.below hb⟩
theorem SAt.step (h : SAt w W b g room rs) (hp : SAddPost W b g room ys e w') : e = .returned (.int .i64 0) ∧ ∃ g', SAt w w' b g' room ys := by
  obtain ⟨he, g', h1, h2, h3⟩ := hp
  refine ⟨he, g', h1, h.nb, fun k hk => ?_, h.below.trans (h3.below (fun x hx => ?_) h.below.size)⟩
  · rcases h2 k hk with h4 | h4
    · exact h.ng k h4
    · exact Nat.le_trans h.below.size h4
  · simp at hx
    rcases hx with rfl | hx
    · exact h.nb
    · exact h.ng x hx
theorem SAt.alloc (h : SAt w W b g room rs) (o : Obj) : SAt w (W.alloc o) b g room rs := h.later ((Below.refl _ _).alloc (Nat.le_refl _) o)
theorem SAt.fresh (h : SNewPost W room e w') (hb : Below w.heap.size w W) : ∃ b, e = .returned (.tuple #[.pointer (some ⟨b, 0, none⟩), .int .i64 0]) ∧ SAt w w' b none room [] := by
  obtain ⟨b, he, h1, h2, h3⟩ := h
  exact ⟨b, he, h1, Nat.le_trans hb.size h2, by simp, bw_below' hb h3⟩
end
theorem rgat_new {w : World} {k t : Nat} {cs : Array Value} {rs : List Rg} (h : Blk w k t cs) (e : cs = (rgsCells rs).toArray) : RgAt w (some ⟨k, 0, none⟩) rs := fun i r hi => by
  subst e
  refine ⟨k, rfl, h.lt, ?_, ?_⟩
  · rw [h.cell, List.getElem?_toArray]
    unfold rgsCells
    exact (flat_cell rgCells 2 rgCells_length rs i 0 (by omega)).trans (by rw [hi]; rfl)
  · rw [h.cell, List.getElem?_toArray]
    unfold rgsCells
    exact (flat_cell rgCells 2 rgCells_length rs i 1 (by omega)).trans (by rw [hi]; rfl)

set_option maxRecDepth 100000 in
set_option maxHeartbeats 2000000 in
theorem sworks_any (w : World) : Calls Try.prog 21 #[] w fun e w' => e = .returned (.bool true) ∧ Below w.heap.size w w' := by
  go_enter Try.func21, Try.ntmps21
  go_wp2_with fail
  refine (snew_ok 2 w (by omega) (by omega)).mono ?_
  intro e0 w0 hp
  obtain ⟨b, rfl, h⟩ := SAt.fresh (w := w) hp (Below.refl _ _)
  clear hp
  go_wp2_with fail
  refine (add_ok b _ 2 5 7 ([] : List Rg) _ h.set (by omega) (by omega) (by omega) (by decide)).mono ?_
  intro e1 w1 hp
  obtain ⟨rfl, g1, h1⟩ := h.step hp
  clear hp h
  rw [show addR 5 7 ([] : List Rg) = [(⟨5, 7⟩ : Rg)] from rfl] at h1
  have h := h1
  clear h1
  go_wp2_with fail
  refine (add_ok b _ 2 1 2 [(⟨5, 7⟩ : Rg)] _ h.set (by omega) (by omega) (by omega) (by decide)).mono ?_
  intro e1 w1 hp
  obtain ⟨rfl, g1, h1⟩ := h.step hp
  clear hp h
  rw [show addR 1 2 [(⟨5, 7⟩ : Rg)] = [(⟨1, 2⟩ : Rg), ⟨5, 7⟩] from rfl] at h1
  have h := h1
  clear h1
  go_wp2_with fail
  refine (add_limit b _ 2 9 9 [(⟨1, 2⟩ : Rg), ⟨5, 7⟩] _ h.set (by omega) (by omega) (by omega) (by decide)).mono ?_
  rintro e1 w1 ⟨rfl, hb1⟩
  skip
  have h1 := h.later hb1
  clear hb1 h
  have h := h1
  clear h1
  go_wp2_with fail
  refine (holds_any b _ 2 [(⟨1, 2⟩ : Rg), ⟨5, 7⟩] [(⟨5, 7⟩ : Rg), ⟨1, 2⟩] _ 2 _ _ (h.alloc _).set rfl (by omega) (by exact rgat_new (Blk.new _ _ _) rfl)).mono ?_
  rintro e1 w1 ⟨rfl, hb1⟩
  rw [show decide (List.reverse [(⟨1, 2⟩ : Rg), ⟨5, 7⟩] = [(⟨5, 7⟩ : Rg), ⟨1, 2⟩]) = true from by decide]
  have h2 := (h.alloc _).later hb1
  clear hb1 h
  have h := h2
  clear h2
  go_wp2_with fail
  refine (add_ok b _ 2 3 4 [(⟨1, 2⟩ : Rg), ⟨5, 7⟩] _ h.set (by omega) (by omega) (by omega) (by decide)).mono ?_
  intro e1 w1 hp
  obtain ⟨rfl, g1, h1⟩ := h.step hp
  clear hp h
  rw [show addR 3 4 [(⟨1, 2⟩ : Rg), ⟨5, 7⟩] = [(⟨1, 7⟩ : Rg)] from rfl] at h1
  have h := h1
  clear h1
  go_wp2_with fail
  refine (holds_any b _ 2 [(⟨1, 7⟩ : Rg)] [(⟨1, 7⟩ : Rg)] _ 1 _ _ (h.alloc _).set rfl (by omega) (by exact rgat_new (Blk.new _ _ _) rfl)).mono ?_
  rintro e1 w1 ⟨rfl, hb1⟩
  rw [show decide (List.reverse [(⟨1, 7⟩ : Rg)] = [(⟨1, 7⟩ : Rg)]) = true from by decide]
  have h2 := (h.alloc _).later hb1
  clear hb1 h
  have h := h2
  clear h2
  go_wp2_with fail
  refine (count_any b _ 2 [(⟨1, 7⟩ : Rg)] _ h.set).mono ?_
  rintro e1 w1 ⟨rfl, hb1⟩
  rw [show cntR [(⟨1, 7⟩ : Rg)] = 7 from rfl]
  have h1 := h.later hb1
  clear hb1 h
  have h := h1
  clear h1
  go_wp2_with fail
  refine (snext_any b _ 2 1 [(⟨1, 7⟩ : Rg)] _ h.set).mono ?_
  rintro e1 w1 ⟨rfl, hb1⟩
  rw [show nextOf 1 [(⟨1, 7⟩ : Rg)] = 8 from rfl]
  have h1 := h.later hb1
  clear hb1 h
  have h := h1
  clear h1
  go_wp2_with fail
  refine (snext_any b _ 2 9 [(⟨1, 7⟩ : Rg)] _ h.set).mono ?_
  rintro e1 w1 ⟨rfl, hb1⟩
  rw [show nextOf 9 [(⟨1, 7⟩ : Rg)] = 9 from rfl]
  have h1 := h.later hb1
  clear hb1 h
  have h := h1
  clear h1
  go_wp2_with fail
  refine (add_arg b _ 2 2 1 [(⟨1, 7⟩ : Rg)] _ h.set (by omega)).mono ?_
  rintro e1 w1 ⟨rfl, hb1⟩
  skip
  have h1 := h.later hb1
  clear hb1 h
  have h := h1
  clear h1
  go_wp2_with fail
  refine (cut_ok b _ 2 3 [(⟨1, 7⟩ : Rg)] _ h.set (by omega) (by omega)).mono ?_
  intro e1 w1 hp
  obtain ⟨rfl, g1, h1⟩ := h.step hp
  clear hp h
  rw [show cutR 3 [(⟨1, 7⟩ : Rg)] = [(⟨3, 7⟩ : Rg)] from rfl] at h1
  have h := h1
  clear h1
  go_wp2_with fail
  refine (holds_any b _ 2 [(⟨3, 7⟩ : Rg)] [(⟨3, 7⟩ : Rg)] _ 1 _ _ (h.alloc _).set rfl (by omega) (by exact rgat_new (Blk.new _ _ _) rfl)).mono ?_
  rintro e1 w1 ⟨rfl, hb1⟩
  rw [show decide (List.reverse [(⟨3, 7⟩ : Rg)] = [(⟨3, 7⟩ : Rg)]) = true from by decide]
  have h2 := (h.alloc _).later hb1
  clear hb1 h
  have h := h2
  clear h2
  go_wp2_with fail
  refine (smin_any b _ 2 [(⟨3, 7⟩ : Rg)] _ h.set).mono ?_
  rintro e1 w1 ⟨rfl, hb1⟩
  rw [show minOf [(⟨3, 7⟩ : Rg)] = 3 from rfl]
  have h1 := h.later hb1
  clear hb1 h
  have h := h1
  clear h1
  go_wp2_with fail
  refine (smax_any b _ 2 [(⟨3, 7⟩ : Rg)] _ h.set).mono ?_
  rintro e1 w1 ⟨rfl, hb1⟩
  rw [show maxOf [(⟨3, 7⟩ : Rg)] = 7 from rfl]
  have h1 := h.later hb1
  clear hb1 h
  have h := h1
  clear h1
  go_wp2_with fail
  refine (cut_ok b _ 2 8 [(⟨3, 7⟩ : Rg)] _ h.set (by omega) (by omega)).mono ?_
  intro e1 w1 hp
  obtain ⟨rfl, g1, h1⟩ := h.step hp
  clear hp h
  rw [show cutR 8 [(⟨3, 7⟩ : Rg)] = ([] : List Rg) from rfl] at h1
  have h := h1
  clear h1
  go_wp2_with fail
  refine (smax_any b _ 2 ([] : List Rg) _ h.set).mono ?_
  rintro e1 w1 ⟨rfl, hb1⟩
  rw [show maxOf ([] : List Rg) = -1 from rfl]
  have h1 := h.later hb1
  clear hb1 h
  have h := h1
  clear h1
  go_wp2_with fail
  refine (slen_any b _ 2 ([] : List Rg) _ h.set).mono ?_
  rintro e1 w1 ⟨rfl, rfl⟩
  go_wp2_with fail
  go_ret
  exact ⟨rfl, h.below⟩
end Go.Proofs.Ytkmfhcjdajbbhaa
