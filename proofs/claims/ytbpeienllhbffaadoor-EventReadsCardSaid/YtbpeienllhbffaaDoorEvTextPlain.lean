/-
  event.Parse's answers: the events, or none and the line that is wrong, in plain Lean.
-/
import Derived.Test.YtbpeienllhbffaaDoorEvBackB
namespace Go.Proofs.YtbpeienllhbffaaDoor
set_option linter.unusedSimpArgs false
set_option linter.unusedVariables false
open Go
theorem parse_kinds : ∀ (k : Nat) (s : List UInt8) (es : List EV), s.length ≤ k → es.length + s.length < 4000 → (∃ gs, parseL k s es = (es ++ gs, 0, 0)) ∨ (∃ n : Int, parseL k s es = ([], n, 4) ∧ 1 ≤ n ∧ n ≤ es.length + 1 + (s.count 10 : Nat))
  | 0, s, es, hk, hl => .inl ⟨[], by rw [List.append_nil]; rfl⟩
  | k + 1, s, es, hk, hl => by
    by_cases hs : s = []
    · subst hs
      exact .inl ⟨[], by rw [List.append_nil]; rfl⟩
    · rw [parseL, if_neg hs, if_neg (by omega)]
      by_cases hw : (Lib.cut s [10]).2.2 = false
      · rw [if_pos hw]
        exact .inr ⟨_, rfl, by omega, by omega⟩
      · rw [if_neg hw]
        cases he : readE (mkB (Lib.cut s [10]).1) with
        | none => exact .inr ⟨_, rfl, by omega, by omega⟩
        | some e =>
          have hc := cut_whole (by simpa using hw)
          have hr := cut_rest hs
          have hcn : s.count 10 = (Lib.cut s [10]).1.count 10 + ((Lib.cut s [10]).2.1.count 10 + 1) := by
            conv => lhs; rw [hc]
            rw [List.count_append, List.count_cons_self]
          rcases parse_kinds k (Lib.cut s [10]).2.1 (es ++ [e]) (by omega) (by rw [List.length_append, List.length_singleton]; omega) with ⟨gs, h⟩ | ⟨n, h, h1, h2⟩
          · exact .inl ⟨e :: gs, by rw [List.append_assoc] at h; exact h⟩
          · refine .inr ⟨n, h, h1, ?_⟩
            rw [List.length_append, List.length_singleton] at h2
            omega
theorem parse_law (s : ByteArray) (hs : s.size ≤ 3000) : (∃ fs, parseE s = (fs, 0, 0) ∧ textE fs = s.data.toList ∧ fs.all okEV = true) ∨ (∃ n : Int, parseE s = ([], n, 4) ∧ 1 ≤ n ∧ n ≤ 1 + (s.data.toList.count 10 : Nat)) := by
  have hl : s.data.toList.length = s.size := (Lib.size_eq s).symm
  have hp : parseE s = parseL s.size s.data.toList [] := by
    unfold parseE
    rw [if_neg (by omega)]
  rcases parse_kinds s.size s.data.toList [] (by omega) (by simp only [List.length_nil]; omega) with ⟨gs, h⟩ | ⟨n, h, h1, h2⟩
  · obtain ⟨fs, h3, h4, h5⟩ := parse_back read_back s.size s.data.toList [] _ (by omega) h
    rw [List.nil_append] at h h3
    exact .inl ⟨gs, hp.trans h, by rw [h3]; exact h4, by rw [h3]; exact h5⟩
  · exact .inr ⟨n, hp.trans h, h1, by simpa using h2⟩
theorem okEV_small {e : EV} (h : okEV e = true) : e.small := by
  unfold okEV at h
  cases hk : kindOf e.kind with
  | none =>
    rw [hk] at h
    cases h
  | some k =>
    rw [hk] at h
    simp only [Bool.and_eq_true, decide_eq_true_eq] at h
    obtain ⟨h1, h2, h3⟩ := kind_some hk
    obtain ⟨e0, e1, e2, e3⟩ := e
    simp only at h3
    have : k = 1 ∨ k = 2 ∨ k = 3 ∨ k = 4 ∨ k = 5 ∨ k = 6 := by omega
    intro j
    rcases this with rfl | rfl | rfl | rfl | rfl | rfl <;>
      simp [fieldsF, fSp, fNum, fSize, inF, EV.get, EV.set, strike, zeroEV] at h <;>
      rcases j with _ | _ | _ | j <;> simp only [EV.get] <;> omega
end Go.Proofs.YtbpeienllhbffaaDoor
