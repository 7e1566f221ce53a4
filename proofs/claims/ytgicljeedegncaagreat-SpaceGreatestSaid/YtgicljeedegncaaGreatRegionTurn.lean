/-
  A region that draws its order: behind the operation until which C holds, another condition may be held. A law of no program.
-/
import Derived.Test.YtgicljeedegncaaGreatMgBase
namespace Go.Proofs.YtgicljeedegncaaGreat
open Go

section
variable {P : Program} {ops : Array Oper} {Q : Exit → Act → World → Prop} {md : Region.Mode}

theorem getD_set_true {l : Array Bool} {st i : Nat} (h : l.getD st false = true) : (l.setIfInBounds i true).getD st false = true := by
  rw [Array.getD_eq_getD_getElem?] at h ⊢
  rw [Array.getElem?_setIfInBounds]
  by_cases hi : i = st
  · subst hi
    rw [if_pos rfl]
    split
    · rfl
    · rename_i hlt
      rw [Array.getElem?_eq_none (by omega)] at h
      exact h
  · rw [if_neg hi]
    exact h
/-- C held until st has come up; from here on another condition is held. -/
theorem wpAnyS_turn {C : World → Prop} {st : Nat} (C' : World → Prop) (st' : Nat) : ∀ {fuel : Nat} {listed : Array Bool} {a : Act} {w : World}, listed.getD st false = true → C' w → (C' w → wpAnyS P md ops Q C' st' fuel listed a w) → wpAnyS P md ops Q C st fuel listed a w := by
  have key : ∀ (fuel : Nat) (listed : Array Bool) (a : Act) (w : World), listed.getD st false = true → wpAnyS P md ops Q C' st' fuel listed a w → wpAnyS P md ops Q C st fuel listed a w := by
    intro fuel
    induction fuel with
    | zero => intro listed a w _ h; exact h
    | succ fuel ih =>
      intro listed a w hl h
      refine ⟨h.1, fun i hi => wpOp_mono (fun a' w' h' => ⟨fun hf => ?_, ih _ a' w' (getD_set_true hl) h'.2⟩) (h.2 i hi)⟩
      rw [getD_set_true hl] at hf
      cases hf
  intro fuel listed a w hl hC h
  exact key fuel listed a w hl (h hC)
/-- From here on more is held. -/
theorem wpAnyS_more {C : World → Prop} {st : Nat} (C' : World → Prop) (hCC : ∀ w, C' w → C w) : ∀ {fuel : Nat} {listed : Array Bool} {a : Act} {w : World}, C' w → (C' w → wpAnyS P md ops Q C' st fuel listed a w) → wpAnyS P md ops Q C st fuel listed a w := by
  have key : ∀ (fuel : Nat) (listed : Array Bool) (a : Act) (w : World), wpAnyS P md ops Q C' st fuel listed a w → wpAnyS P md ops Q C st fuel listed a w := by
    intro fuel
    induction fuel with
    | zero => intro listed a w h; exact h
    | succ fuel ih =>
      intro listed a w h
      exact ⟨h.1, fun i hi => wpOp_mono (fun a' w' h' => ⟨fun hf => hCC _ (h'.1 hf), ih _ a' w' h'.2⟩) (h.2 i hi)⟩
  intro fuel listed a w hC h
  exact key fuel listed a w (h hC)
end
end Go.Proofs.YtgicljeedegncaaGreat
