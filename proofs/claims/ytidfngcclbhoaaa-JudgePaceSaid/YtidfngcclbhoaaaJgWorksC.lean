/-
  sounderlaw24: works: each of its calls. Printed by wip/genjworks.py.
-/
import Derived.Test.YtidfngcclbhoaaaJgWorksB
import Derived.Deep.RegionHeld3
namespace Go.Proofs.Ytidfngcclbhoaaa
set_option linter.unusedSimpArgs false
set_option linter.unusedVariables false
open Go.RowKit Go.Shelf
theorem exec_load_row {P : Program} {o : Oper} {a : Act} {w : World} (ty : TypeId) (x : Operand) (ho : o.op = .load ty x) (g : Nat) (hx : a.eval x = .pointer (some ⟨g, 0, none⟩)) (t : TypeId) (cs : Array Value) (fr : Nat × Nat) (d : TypeDesc) (hg : w.heap[g]? = some (.cells cs t fr))
    (hu : P.underlying ty = some d) (hd : (match d with | .struct _ | .array _ _ => true | _ => false) = true) (hi : (P.info? ty).map (·.size) = some cs.size) : (execOp a.eval o).run P w = .ok (.value (.agg cs)) w := by
  unfold execOp
  simp only [ho, hx, Instr.loadAt, Instr.sureAddr, Sem.run_bind, Sem.run_pure, Result.andThen_ok, run_loadVar_row w g t ty cs fr d hg hu hd hi]
theorem f_sa {w W : World} {X1 X2 a1 a2 g : Nat} (h : WkSt w W X1 X2 a1 a2) (hg : Blk W g 36 #[.int .i64 1, .int .i64 0, .int .i64 0, .int .i64 0, .int .i64 0, .int .i64 0, .int .i64 1200, .bool true, .bool true, .bool false, .bool false, .int .i64 0, .slice none 0 0, .bool false, .int .i64 0, .int .i64 0, .int .i64 0, .slice none 0 0, .int .i64 0, .int .i64 0, .int .i64 2, .int .i64 9, .int .i64 0, .int .i64 0, .int .i64 0, .int .i64 0, .int .i64 0, .bool false, .bool false, .bool false, .bool false, .int .i64 0, .slice (some ⟨a1, 0, none⟩) 1 1, .bool false, .int .i64 0, .int .i64 0, .int .i64 0, .slice (some ⟨a2, 0, none⟩) 2 2, .int .i64 0, .int .i64 0]) :
    Calls Try.prog 12 #[.slice (some ⟨g, 0, none⟩) 2 2, .int .i64 (-1), .int .i64 0] W fun e w' => e = .returned (.bool true) ∧ Below W.heap.size W w' := by
  refine finds_steps kI _ 2 2 [xS 0 0, xA a1 a2] (-1) 0 W rfl (by omega) (lie_blk rrL_length hg rfl) ?_ rfl ?_ ?_ (by rfl)
  · intro x hx
    simp at hx
    rcases hx with rfl | rfl
    · exact lie_s 0 0
    · exact h.lie_a
  · intro i x hx
    rcases i with _ | _ | i
    · simp at hx
      subst hx
      exact ⟨ok_A _, row_s _ 0 0 ⟨by omega, by omega⟩ ⟨by omega, by omega⟩ rfl (fun _ => by decide)⟩
    · simp at hx
      subst hx
      exact ⟨ok_B _, row_a _ a1 a2⟩
    · simp at hx
  · intro i x hx
    rcases i with _ | _ | i
    · simp at hx
      subst hx
      exact .inl step_s
    · simp at hx
      subst hx
      exact .inl (by obtain ⟨k, h1, h2⟩ := step_a a1 a2; rw [← show k = kI 2 from h2]; exact h1)
    · simp at hx
theorem f_ss {w W : World} {X1 X2 a1 a2 g : Nat} (h : WkSt w W X1 X2 a1 a2) (hg : Blk W g 36 #[.int .i64 1, .int .i64 0, .int .i64 0, .int .i64 0, .int .i64 0, .int .i64 0, .int .i64 1200, .bool true, .bool true, .bool false, .bool false, .int .i64 0, .slice none 0 0, .bool false, .int .i64 0, .int .i64 0, .int .i64 0, .slice none 0 0, .int .i64 0, .int .i64 0, .int .i64 1, .int .i64 0, .int .i64 0, .int .i64 0, .int .i64 0, .int .i64 0, .int .i64 1200, .bool true, .bool true, .bool false, .bool false, .int .i64 0, .slice none 0 0, .bool false, .int .i64 0, .int .i64 0, .int .i64 0, .slice none 0 0, .int .i64 0, .int .i64 0]) :
    Calls Try.prog 12 #[.slice (some ⟨g, 0, none⟩) 2 2, .int .i64 1, .int .i64 4] W fun e w' => e = .returned (.bool true) ∧ Below W.heap.size W w' := by
  refine finds_steps kI _ 2 2 [xS 0 0, xS 0 0] 1 4 W rfl (by omega) (lie_blk rrL_length hg rfl) ?_ rfl ?_ ?_ (by rfl)
  · intro x hx
    simp at hx
    subst hx
    · exact lie_s 0 0
  · intro i x hx
    rcases i with _ | _ | i
    · simp at hx
      subst hx
      exact ⟨ok_A _, row_s _ 0 0 ⟨by omega, by omega⟩ ⟨by omega, by omega⟩ rfl (fun _ => by decide)⟩
    · simp at hx
      subst hx
      exact ⟨ok_B _, row_s _ 0 0 ⟨by omega, by omega⟩ ⟨by omega, by omega⟩ rfl (fun _ => by decide)⟩
    · simp at hx
  · intro i x hx
    rcases i with _ | _ | i
    · simp at hx
      subst hx
      exact .inl step_s
    · simp at hx
      subst hx
      exact .inr ⟨_, bad_ss, by omega, by omega⟩
    · simp at hx
theorem f_a {w W : World} {X1 X2 a1 a2 g : Nat} (h : WkSt w W X1 X2 a1 a2) (hg : Blk W g 36 #[.int .i64 2, .int .i64 9, .int .i64 0, .int .i64 0, .int .i64 0, .int .i64 0, .int .i64 0, .bool false, .bool false, .bool false, .bool false, .int .i64 0, .slice (some ⟨a1, 0, none⟩) 1 1, .bool false, .int .i64 0, .int .i64 0, .int .i64 0, .slice (some ⟨a2, 0, none⟩) 2 2, .int .i64 0, .int .i64 0]) :
    Calls Try.prog 12 #[.slice (some ⟨g, 0, none⟩) 1 1, .int .i64 0, .int .i64 9] W fun e w' => e = .returned (.bool true) ∧ Below W.heap.size W w' := by
  refine finds_steps kI _ 1 1 [xA a1 a2] 0 9 W rfl (by omega) (lie_blk rrL_length hg rfl) ?_ rfl ?_ ?_ (by rfl)
  · intro x hx
    simp at hx
    subst hx
    · exact h.lie_a
  · intro i x hx
    rcases i with _ | i
    · simp at hx
      subst hx
      exact ⟨ok_A _, row_a _ a1 a2⟩
    · simp at hx
  · intro i x hx
    rcases i with _ | i
    · simp at hx
      subst hx
      exact .inr ⟨_, bad_a a1 a2, by omega, by omega⟩
    · simp at hx
theorem f_saa {w W : World} {X1 X2 a1 a2 g : Nat} (h : WkSt w W X1 X2 a1 a2) (hg : Blk W g 36 #[.int .i64 1, .int .i64 0, .int .i64 0, .int .i64 0, .int .i64 0, .int .i64 0, .int .i64 1200, .bool true, .bool true, .bool false, .bool false, .int .i64 0, .slice none 0 0, .bool false, .int .i64 0, .int .i64 0, .int .i64 0, .slice none 0 0, .int .i64 0, .int .i64 0, .int .i64 2, .int .i64 9, .int .i64 0, .int .i64 0, .int .i64 0, .int .i64 0, .int .i64 0, .bool false, .bool false, .bool false, .bool false, .int .i64 0, .slice (some ⟨a1, 0, none⟩) 1 1, .bool false, .int .i64 0, .int .i64 0, .int .i64 0, .slice (some ⟨a2, 0, none⟩) 2 2, .int .i64 0, .int .i64 0, .int .i64 2, .int .i64 9, .int .i64 0, .int .i64 0, .int .i64 0, .int .i64 0, .int .i64 0, .bool false, .bool false, .bool false, .bool false, .int .i64 0, .slice (some ⟨a1, 0, none⟩) 1 1, .bool false, .int .i64 0, .int .i64 0, .int .i64 0, .slice (some ⟨a2, 0, none⟩) 2 2, .int .i64 0, .int .i64 0]) :
    Calls Try.prog 12 #[.slice (some ⟨g, 0, none⟩) 3 3, .int .i64 2, .int .i64 9] W fun e w' => e = .returned (.bool true) ∧ Below W.heap.size W w' := by
  refine finds_steps kI _ 3 3 [xS 0 0, xA a1 a2, xA a1 a2] 2 9 W rfl (by omega) (lie_blk rrL_length hg rfl) ?_ rfl ?_ ?_ (by rfl)
  · intro x hx
    simp at hx
    rcases hx with rfl | rfl
    · exact lie_s 0 0
    · exact h.lie_a
  · intro i x hx
    rcases i with _ | _ | _ | i
    · simp at hx
      subst hx
      exact ⟨ok_A _, row_s _ 0 0 ⟨by omega, by omega⟩ ⟨by omega, by omega⟩ rfl (fun _ => by decide)⟩
    · simp at hx
      subst hx
      exact ⟨ok_B _, row_a _ a1 a2⟩
    · simp at hx
      subst hx
      exact ⟨ok_C _, row_a _ a1 a2⟩
    · simp at hx
  · intro i x hx
    rcases i with _ | _ | _ | i
    · simp at hx
      subst hx
      exact .inl step_s
    · simp at hx
      subst hx
      exact .inl (by obtain ⟨k, h1, h2⟩ := step_a a1 a2; rw [← show k = kI 2 from h2]; exact h1)
    · simp at hx
      subst hx
      exact .inr ⟨_, bad_saa a1 a2, by omega, by omega⟩
    · simp at hx
theorem f_sas {w W : World} {X1 X2 a1 a2 g : Nat} (h : WkSt w W X1 X2 a1 a2) (hg : Blk W g 36 #[.int .i64 1, .int .i64 0, .int .i64 0, .int .i64 0, .int .i64 0, .int .i64 0, .int .i64 1200, .bool true, .bool true, .bool false, .bool false, .int .i64 0, .slice none 0 0, .bool false, .int .i64 0, .int .i64 0, .int .i64 0, .slice none 0 0, .int .i64 0, .int .i64 0, .int .i64 2, .int .i64 9, .int .i64 0, .int .i64 0, .int .i64 0, .int .i64 0, .int .i64 0, .bool false, .bool false, .bool false, .bool false, .int .i64 0, .slice (some ⟨a1, 0, none⟩) 1 1, .bool false, .int .i64 0, .int .i64 0, .int .i64 0, .slice (some ⟨a2, 0, none⟩) 2 2, .int .i64 0, .int .i64 0, .int .i64 1, .int .i64 8, .int .i64 0, .int .i64 0, .int .i64 0, .int .i64 1, .int .i64 1200, .bool true, .bool true, .bool false, .bool false, .int .i64 0, .slice none 0 0, .bool false, .int .i64 0, .int .i64 0, .int .i64 0, .slice none 0 0, .int .i64 0, .int .i64 0]) :
    Calls Try.prog 12 #[.slice (some ⟨g, 0, none⟩) 3 3, .int .i64 2, .int .i64 3] W fun e w' => e = .returned (.bool true) ∧ Below W.heap.size W w' := by
  refine finds_steps kI _ 3 3 [xS 0 0, xA a1 a2, xS 1 8] 2 3 W rfl (by omega) (lie_blk rrL_length hg rfl) ?_ rfl ?_ ?_ (by rfl)
  · intro x hx
    simp at hx
    rcases hx with rfl | rfl | rfl
    · exact lie_s 0 0
    · exact h.lie_a
    · exact lie_s 1 8
  · intro i x hx
    rcases i with _ | _ | _ | i
    · simp at hx
      subst hx
      exact ⟨ok_A _, row_s _ 0 0 ⟨by omega, by omega⟩ ⟨by omega, by omega⟩ rfl (fun _ => by decide)⟩
    · simp at hx
      subst hx
      exact ⟨ok_B _, row_a _ a1 a2⟩
    · simp at hx
      subst hx
      exact ⟨ok_C _, row_s _ 1 8 ⟨by omega, by omega⟩ ⟨by omega, by omega⟩ rfl (fun _ => by decide)⟩
    · simp at hx
  · intro i x hx
    rcases i with _ | _ | _ | i
    · simp at hx
      subst hx
      exact .inl step_s
    · simp at hx
      subst hx
      exact .inl (by obtain ⟨k, h1, h2⟩ := step_a a1 a2; rw [← show k = kI 2 from h2]; exact h1)
    · simp at hx
      subst hx
      exact .inr ⟨_, bad_sas, by omega, by omega⟩
    · simp at hx
end Go.Proofs.Ytidfngcclbhoaaa
