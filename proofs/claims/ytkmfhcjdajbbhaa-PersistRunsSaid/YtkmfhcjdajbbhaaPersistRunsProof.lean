/-
  The statement PersistRunsSaid, proved: whatever the input, the law answers true, and the input reads as it did. The frame is the kit's own shell (proof-skeleton); the walk lies in PersistRuns.
-/
import Derived.Test.YtkmfhcjdajbbhaaRows
import Derived.Test.YtkmfhcjdajbbhaaPersistRuns
import Derived.Test.YtkmfhcjdajbbhaaFlat
import Derived.Test.YtkmfhcjdajbbhaaArr3
import Derived.WalkKit
import Derived.ProofKit
import Derived.OpenShut
import Derived.ShutString
import Derived.ChangeOld
import Derived.Below
namespace Go.Proofs.Ytkmfhcjdajbbhaa.persistRuns
open Go.ChangeShapes Go.WideShapes Go.ChangeAt Go.RowKit
open Go.ChangeMaps (open_string shut_string)
set_option linter.unusedVariables false
set_option linter.unusedSimpArgs false

theorem own : ownKnob Try.prog.godebug = none := by kernel_rfl
theorem laidOut : laidOutB Try.prog = true := by kernel_rfl

set_option maxRecDepth 100000 in
theorem lifted (os : Os) (started : os.Started) (H : Type) (enc : TypeId × Value → H) :
    ReturnsInHanded {} Try.checked os 10 .any (Rows.persistRunsSpec.pre6 enc Try.prog Try.f10 Rows.persistRunsRow.domain false) (Rows.persistRunsSpec.post enc Try.prog Try.f10 false true false false) := by
  refine returnsInHanded_of_change (C := Try.checked) own started (by kernel_rfl) Try.func10
    (ChangeSpec.witness6 (enc := enc) (C := Try.checked) false ⟨#[], #[.slice none 0 0, .slice none 0 0, .int .i64 0], []⟩ 8 (by kernel_rfl) (by kernel_rfl) (by kernel_rfl) (by kernel_rfl)) ?_
  intro W base args ds gs before hval0 hW hcnd _
  have hval : ∀ (j : Nat) t v, Try.f10.params[j]? = some t → args[j]? = some v → Value.okWide Try.prog W .any base t v := hval0
  have hW' := hW
  obtain ⟨p, q, hA0, hV, rfl, hfz, hnd⟩ := hW
  have hA : DataW.TrodAll enc Try.prog W 0 (fun _ => true) true Try.f10.params.toList args.toList ds p := hA0
  rw [Try.params10] at hA hval
  obtain ⟨v0, vs0, d0, ds0, p0, q0, hargs, rfl, rfl, h0, r0⟩ := trodAll_cons hA
  obtain ⟨v1, vs1, d1, ds1, p1, q1, rfl, rfl, rfl, h1, r1⟩ := trodAll_cons r0
  obtain ⟨v2, vs2, d2, ds2, p2, q2, rfl, rfl, rfl, h2, r2⟩ := trodAll_cons r1
  obtain ⟨rfl, rfl, rfl⟩ := trodAll_nil r2
  obtain rfl : args = #[v0, v1, v2] := by cases args; simp_all
  obtain ⟨rfl, rfl⟩ := trodVars_none hV
  have k0 := h0
  have k1 := h1
  have k2 := h2
  obtain ⟨a0, len0, cap0, rfl⟩ := okWide_slice Try.underlying44 (hval 0 44 v0 rfl rfl)
  have w0 : RowsK W a0 len0 [some .i64, some .i64, some .i64] := by
    obtain ⟨fuel, hf⟩ := h0
    exact rows_of_trod (n := 5) Try.underlying44 (by kernel_rfl) (by kernel_rfl) (by decide) hf
  have lc0 : len0 ≤ cap0 ∧ (a0 = none → cap0 = 0) := by obtain ⟨fuel, hf⟩ := h0; exact caps_of_trod Try.underlying44 hf
  obtain ⟨a1, len1, cap1, rfl⟩ := okWide_slice Try.underlying22 (hval 1 22 v1 rfl rfl)
  have w1 : RowsK W a1 len1 [some .i64] := by
    obtain ⟨fuel, hf⟩ := h1
    exact rows_of_trod (n := 5) Try.underlying22 (by kernel_rfl) (by kernel_rfl) (by decide) hf
  have lc1 : len1 ≤ cap1 ∧ (a1 = none → cap1 = 0) := by obtain ⟨fuel, hf⟩ := h1; exact caps_of_trod Try.underlying22 hf
  obtain ⟨n2, rfl, _, _, u2⟩ := open_int Try.underlying3 (hval 2 3 v2 rfl rfl) h2
  have w2 := bounds_i64 u2
  have lt0 : ∀ x ∈ p0, x.block < W.heap.size := by obtain ⟨m, hm⟩ := k0; exact DataW.trod_lt m _ _ _ hm
  have lt1 : ∀ x ∈ p1, x.block < W.heap.size := by obtain ⟨m, hm⟩ := k1; exact DataW.trod_lt m _ _ _ hm
  have lt2 : ∀ x ∈ p2, x.block < W.heap.size := by obtain ⟨m, hm⟩ := k2; exact DataW.trod_lt m _ _ _ hm
  clear hA0 hval0
  obtain ⟨N, D, B, hz⟩ := tri_of_rows w0; obtain ⟨Z, ho⟩ := one_of_rows w1
  refine (sruns_any a0 len0 cap0 N D B a1 len1 cap1 Z n2 W hz ho w2.1 w2.2).mono fun e W' ⟨he, bel⟩ => ?_
  subst he
  exact ⟨_, rfl, _, _, _, [], _, [], hW', trodAll_mk1 (shut_bool Try.underlying4 _), (trodAll_cons_mk (Below.trod laidOut (by kernel_rfl) (of_decide_eq_true (by kernel_rfl)) k0 bel lt0) (trodAll_cons_mk (Below.trod laidOut (by kernel_rfl) (of_decide_eq_true (by kernel_rfl)) k1 bel lt1) (trodAll_cons_mk (Below.trod laidOut (by kernel_rfl) (of_decide_eq_true (by kernel_rfl)) k2 bel lt2) trodAll_mk0))), rfl, bel.frame _, fun h => by cases h⟩

theorem over : Rows.persistRunsRow.holds Try.pinned (OpenSpec.ofChange Rows.persistRunsSpec) :=
  OpenClaim.holds_of_wide 10 Try.f10 rfl rfl rfl rfl rfl rfl rfl ⟨rfl, rfl, rfl, rfl, rfl⟩ rfl rfl rfl rfl rfl (by kernel_rfl) Try.func10 (by kernel_rfl)
    (of_decide_eq_true (by kernel_rfl)) (by unfold Func.isWrapper; first | (rw [if_pos (by decide +kernel)]; kernel_rfl) | (rw [if_neg (by decide +kernel)]; exact ⟨rfl, rfl⟩))
    (fun os started H enc _ => lifted os started H enc)

theorem proved : Rows.PersistRunsSaid := over
#print axioms proved
end Go.Proofs.Ytkmfhcjdajbbhaa.persistRuns
