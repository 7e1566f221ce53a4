/-
  event: what is read is written as it stands there, in plain Lean.
-/
import Derived.Test.YtbpeienllhbffaaDoorEvParse
namespace Go.Proofs.YtbpeienllhbffaaDoor
set_option linter.unusedSimpArgs false
set_option linter.unusedVariables false
open Go

theorem index_one (c : UInt8) : ∀ (s : List UInt8) (i : Nat), Lib.index s [c] = i → s = s.take i ++ c :: s.drop (i + 1)
  | [], i, h => by
    rw [Lib.index] at h
    simp [List.isPrefixOf] at h
  | b :: l, i, h => by
    by_cases hb : b = c
    · subst hb
      rw [Lib.index] at h
      simp [List.isPrefixOf] at h
      have : i = 0 := by omega
      subst this
      simp
    · have hp : ([c] : List UInt8).isPrefixOf (b :: l) = false := by simp [List.isPrefixOf, Ne.symm hb]
      rw [Lib.index, hp] at h
      simp only [Bool.false_eq_true, if_false] at h
      by_cases hm : Lib.index l [c] = -1
      · rw [if_pos (beq_iff_eq.2 hm)] at h
        omega
      · rw [if_neg (fun e => hm (beq_iff_eq.1 e))] at h
        have hge := Lib.index_ge l [c]
        obtain ⟨j, rfl⟩ : ∃ j, i = j + 1 := ⟨i - 1, by omega⟩
        have ih := index_one c l j (by omega)
        rw [List.take_succ_cons, List.drop_succ_cons, List.cons_append, ← ih]
/-- Words, blanks between them. -/
def glue : List ByteArray → List UInt8
  | [] => []
  | [x] => x.data.toList
  | x :: r => x.data.toList ++ 32 :: glue r
theorem glue_cons (x : ByteArray) {r : List ByteArray} (h : r ≠ []) : glue (x :: r) = x.data.toList ++ 32 :: glue r := by
  cases r with
  | nil => exact absurd rfl h
  | cons y r => rfl
theorem split_ne (k : Nat) (s : ByteArray) : Lib.splitB spB 0 k s ≠ [] := by
  cases k with
  | zero => simp [Lib.splitB]
  | succ k =>
    unfold Lib.splitB
    split <;> simp
theorem glue_split : ∀ (k : Nat) (s : ByteArray), glue (Lib.splitB spB 0 k s) = s.data.toList
  | 0, s => rfl
  | k + 1, s => by
    rcases Lib.indexB_cases s spB with h | ⟨i, h, hi⟩
    · rw [Lib.splitB_miss _ _ _ _ h]
      rfl
    · rw [Lib.splitB_hit _ _ _ _ i h, glue_cons _ (split_ne _ _), glue_split k]
      have h1 := index_one 32 s.data.toList i h
      have e1 : (s.extract 0 (i + 0)).data.toList = s.data.toList.take i := by simp [ByteArray.data_extract]
      have e2 : (s.extract (i + spB.size) s.size).data.toList = s.data.toList.drop (i + 1) := by
        rw [ByteArray.data_extract, Array.toList_extract]
        have : spB.size = 1 := rfl
        rw [this]
        simp
        exact List.take_of_length_le (by rw [List.length_drop, Lib.size_eq]; exact Nat.le_refl _)
      rw [e1, e2, ← h1]
/-- A cut that is whole. -/
theorem cut_whole {s : List UInt8} (h : (Lib.cut s [10]).2.2 = true) : s = (Lib.cut s [10]).1 ++ 10 :: (Lib.cut s [10]).2.1 := by
  unfold Lib.cut at h ⊢
  split at h
  · rename_i h0
    rw [if_pos h0]
    exact index_one 10 s _ (by omega)
  · cases h
/-- Numbers that fit are written as they stand. -/
theorem num_text {s : ByteArray} {v : Int} (h : numZ s = some v) : Lib.itoa v = s.data.toList := by
  unfold numZ at h
  split at h
  · split at h
    · rename_i hc
      injection h with h
      rw [← h]
      exact hc.2
    · cases h
  · cases h
/-- All rows of a text that is read are written as they stand. -/
theorem parse_back (hR : ∀ (s : ByteArray) (e : EV), readE s = some e → okEV e = true ∧ lineE e = s.data.toList ++ [10]) : ∀ (k : Nat) (s : List UInt8) (es fs : List EV), s.length ≤ k → parseL k s es = (fs, 0, 0) → ∃ gs, fs = es ++ gs ∧ textE gs = s ∧ gs.all okEV = true
  | 0, s, es, fs, hk, h => by
    have : s = [] := List.eq_nil_of_length_eq_zero (by omega)
    subst this
    simp only [parseL, Prod.mk.injEq] at h
    exact ⟨[], by rw [← h.1, List.append_nil], rfl, rfl⟩
  | k + 1, s, es, fs, hk, h => by
    rw [parseL] at h
    split at h
    · rename_i hs
      simp only [Prod.mk.injEq] at h
      exact ⟨[], by rw [← h.1, List.append_nil], by rw [hs]; rfl, rfl⟩
    · rename_i hs
      split at h
      · simp at h
      · split at h
        · simp at h
        · rename_i hw
          have hc := cut_whole (by simpa using hw)
          have hl := cut_rest hs
          split at h
          · simp at h
          · rename_i e he
            obtain ⟨hok, hln⟩ := hR _ _ he
            obtain ⟨gs, h1, h2, h3⟩ := parse_back hR k _ _ _ (by omega) h
            refine ⟨e :: gs, by rw [h1]; simp, ?_, by rw [List.all_cons, hok, h3]; rfl⟩
            have e1 : textE (e :: gs) = lineE e ++ textE gs := by unfold textE; rw [List.flatMap_cons]
            rw [e1, hln, h2, mkB_data, List.append_assoc]
            exact hc.symm
end Go.Proofs.YtbpeienllhbffaaDoor
