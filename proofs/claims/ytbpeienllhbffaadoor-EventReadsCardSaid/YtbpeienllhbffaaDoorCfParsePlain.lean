/-
  conf.Parse, in plain Lean: lines, words, rows.
-/
import Derived.Test.YtbpeienllhbffaaDoorCfPlainB
import Derived.Lib.TrimU
import Derived.Lib.SplitLaws
namespace Go.Proofs.YtbpeienllhbffaaDoor
set_option linter.unusedSimpArgs false
set_option linter.unusedVariables false
open Go

/-- The spans of words lie in the text, and are not empty. -/
theorem spans_ok (p : Nat → Bool) (s : ByteArray) : ∀ (f pos : Nat) (st : Option Nat) (acc : List (Nat × Nat)), (∀ x ∈ acc, x.1 < x.2 ∧ x.2 ≤ s.size) → (∀ a, st = some a → a < pos ∧ a < s.size) →
    (∀ x ∈ (Lib.spansFromP p s f pos st acc).1, x.1 < x.2 ∧ x.2 ≤ s.size) ∧ ∀ a, (Lib.spansFromP p s f pos st acc).2 = some a → a < s.size
  | 0, pos, st, acc, h1, h2 => ⟨h1, fun a ha => (h2 a ha).2⟩
  | f + 1, pos, st, acc, h1, h2 => by
    have hw := Lib.width_pos s pos
    unfold Lib.spansFromP
    by_cases hp : pos < s.size
    · rw [if_pos hp]
      by_cases hb : p (Utf8.decode s pos).1 = true
      · rw [if_pos hb]
        cases st with
        | none => exact spans_ok p s f _ none acc h1 (fun a ha => by cases ha)
        | some a =>
          refine spans_ok p s f _ none _ (fun x hx => ?_) (fun a ha => by cases ha)
          rcases List.mem_append.1 hx with hx | hx
          · exact h1 x hx
          · simp at hx
            subst hx
            have := (h2 a rfl).1
            exact ⟨this, by show pos ≤ s.size; omega⟩
      · rw [if_neg hb]
        cases st with
        | none => exact spans_ok p s f _ (some pos) acc h1 (fun a ha => by cases ha; omega)
        | some a => exact spans_ok p s f _ (some a) acc h1 (fun b hb => by cases hb; have := h2 a rfl; omega)
    · rw [if_neg hp]
      exact ⟨h1, fun a ha => (h2 a ha).2⟩
theorem extract_size (s : ByteArray) (a b : Nat) (hb : b ≤ s.size) : (s.extract a b).size = b - a := by
  rw [ByteArray.size_extract]
  omega
theorem words_ok (l w : ByteArray) (h : w ∈ wordsB l) : 0 < w.size ∧ w.size ≤ l.size := by
  unfold wordsB Lib.goFieldsP Lib.spansOfP Lib.closeSpans at h
  obtain ⟨x, hx, rfl⟩ := List.mem_map.1 h
  obtain ⟨h1, h2⟩ := spans_ok isBlank l l.size 0 none [] (by simp) (fun a ha => by cases ha)
  have hok : x.1 < x.2 ∧ x.2 ≤ l.size := by
    cases hst : (Lib.spansFromP isBlank l l.size 0 none []).2 with
    | none =>
      rw [hst] at hx
      exact h1 x hx
    | some a =>
      rw [hst] at hx
      rcases List.mem_append.1 hx with hx | hx
      · exact h1 x hx
      · simp at hx
        subst hx
        exact ⟨h2 a hst, Nat.le_refl _⟩
  rw [extract_size _ _ _ hok.2]
  omega
def nlB : ByteArray := ⟨#[10]⟩
def linesB (s : ByteArray) : List ByteArray := Lib.splitB nlB 0 (Lib.countB s nlB) s
theorem splitB_size (sep : ByteArray) : ∀ (k : Nat) (s x : ByteArray), x ∈ Lib.splitB sep 0 k s → x.size ≤ s.size
  | 0, s, x, h => by
    simp [Lib.splitB] at h
    rw [h]
    exact Nat.le_refl _
  | k + 1, s, x, h => by
    unfold Lib.splitB at h
    split at h
    · simp at h
      rw [h]
      exact Nat.le_refl _
    · rcases List.mem_cons.1 h with h | h
      · rw [h, ByteArray.size_extract]
        omega
      · have := splitB_size sep k _ x h
        rw [ByteArray.size_extract] at this
        omega
theorem lines_size {s x : ByteArray} (h : x ∈ linesB s) : x.size ≤ s.size := splitB_size _ _ _ _ h
theorem lines_length (s : ByteArray) : (linesB s).length = Lib.countB s nlB + 1 := Lib.splitB_all nlB (by decide) 0 _ s rfl
structure PSt where
  vs : List Int
  had : List ByteArray
def emptyB : ByteArray := ⟨#[]⟩
def wordAt (l : ByteArray) (i : Nat) : ByteArray := (wordsB l).getD i emptyB
def memB (w : ByteArray) (had : List ByteArray) : Bool := had.any fun x => decide (x = w)
theorem memB_iff {w : ByteArray} {had : List ByteArray} : memB w had = true ↔ w ∈ had := by
  unfold memB
  rw [List.any_eq_true]
  constructor
  · rintro ⟨x, hx, h⟩
    have := of_decide_eq_true h
    subst this
    exact hx
  · intro h
    exact ⟨w, h, decide_eq_true rfl⟩
/-- What a line does. -/
def stepC (st : PSt) (l : ByteArray) : Option PSt :=
  if (wordsB l).length = 0 ∨ (wordAt l 0).data.toList.head? = some 35 then some st else
  match placeN (wordAt l 0) 10 with
  | none => none
  | some k => if memB (wordAt l 0) st.had = true ∨ (wordsB l).length ≠ 2 then none else
    match numberB (wordAt l 1) with
    | none => none
    | some n => if k = 0 ∧ 1 < n then none else some ⟨st.vs.set k n, st.had ++ [wordAt l 0]⟩
/-- What lines do: the first that is none, or what is known behind them. -/
def runC : Nat → PSt → List ByteArray → Nat ⊕ PSt
  | _, st, [] => .inr st
  | i, st, l :: ls => match stepC st l with
    | none => .inl i
    | some st' => runC (i + 1) st' ls
def pst0 : PSt := ⟨(defaultCF false).vals, []⟩
/-- Parse: the setting, the line, the error. -/
def parseC (s : ByteArray) : CF × Int × Int :=
  if 65536 < s.size then (zeroCF, 0, 5) else
  match runC 0 pst0 (linesB s) with
  | .inl i => (zeroCF, (i : Int) + 1, 4)
  | .inr st => if errC (ofVals st.vs) = 0 then (ofVals st.vs, 0, 0) else (zeroCF, 0, errC (ofVals st.vs))
theorem runC_cons {i : Nat} {st st' : PSt} {l : ByteArray} {ls : List ByteArray} (h : stepC st l = some st') : runC i st (l :: ls) = runC (i + 1) st' ls := by
  rw [runC, h]
theorem runC_bad {i : Nat} {st : PSt} {l : ByteArray} {ls : List ByteArray} (h : stepC st l = none) : runC i st (l :: ls) = .inl i := by
  rw [runC, h]
end Go.Proofs.YtbpeienllhbffaaDoor
