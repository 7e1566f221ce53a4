/-
  Layer 20 (conf): its lines, words, numbers, in plain Lean.
-/
import Derived.Test.YtbpeienllhbffaaDoorCfPlain
import Derived.Lib.ItoaLen
namespace Go.Proofs.YtbpeienllhbffaaDoor
set_option linter.unusedSimpArgs false
set_option linter.unusedVariables false
open Go

theorem ba_app (a b : ByteArray) : (a ++ b).data.toList = a.data.toList ++ b.data.toList := by simp
theorem ba_size (a : ByteArray) : a.size = a.data.toList.length := Lib.size_eq a
def lineL (c : CF) (i : Nat) : List UInt8 := (nameB i).data.toList ++ [32] ++ Lib.itoa (valF c i) ++ [10]
def textL (c : CF) (n : Nat) : List UInt8 := (List.range n).flatMap (lineL c)
theorem textL_succ (c : CF) (n : Nat) : textL c (n + 1) = textL c n ++ lineL c n := by
  unfold textL
  rw [List.range_succ, List.flatMap_append]
  simp
/-- A setting whose numbers are int64. -/
def CF.small (c : CF) : Prop := ∀ i < 10, -9223372036854775808 ≤ valF c i ∧ valF c i ≤ 9223372036854775807
theorem name_len : ∀ i < 10, (nameB i).data.toList.length ≤ 8
  | 0, _ => by decide
  | 1, _ => by decide
  | 2, _ => by decide
  | 3, _ => by decide
  | 4, _ => by decide
  | 5, _ => by decide
  | 6, _ => by decide
  | 7, _ => by decide
  | 8, _ => by decide
  | 9, _ => by decide
  | n + 10, h => by omega
theorem lineL_len {c : CF} (hc : c.small) {i : Nat} (hi : i < 10) : (lineL c i).length ≤ 31 := by
  have h1 := name_len i hi
  have h2 := Lib.itoa_length_le (valF c i) (hc i hi).1 (hc i hi).2
  unfold lineL
  simp only [List.length_append, List.length_cons, List.length_nil]
  omega
theorem textL_len {c : CF} (hc : c.small) : ∀ n ≤ 10, (textL c n).length ≤ 31 * n
  | 0, _ => by simp [textL]
  | n + 1, h => by
    have h1 := textL_len hc n (by omega)
    have h2 := lineL_len hc (i := n) (by omega)
    rw [textL_succ, List.length_append]
    omega
theorem textL_ne (c : CF) : textL c 10 ≠ [] := by
  rw [textL_succ]
  unfold lineL
  simp
def numberB (s : ByteArray) : Option Int := match Lib.atoiAll s.data.toList with
  | .ok n => if 0 ≤ n ∧ s.size ≤ 16 ∧ Lib.itoa n = s.data.toList then some n else none
  | _ => none
theorem numberB_ok {s : ByteArray} {v : Int} (h : Lib.atoiAll s.data.toList = .ok v) : numberB s = if 0 ≤ v ∧ s.size ≤ 16 ∧ Lib.itoa v = s.data.toList then some v else none := by
  unfold numberB
  rw [h]
theorem ba_eq {a b : ByteArray} (h : a.data.toList = b.data.toList) : a = b := by
  obtain ⟨⟨x⟩⟩ := a
  obtain ⟨⟨y⟩⟩ := b
  simp at h
  rw [h]
def isBlank (x : Nat) : Bool := decide (x = 32)
def wordsB (s : ByteArray) : List ByteArray := Lib.goFieldsP isBlank s
/-- The place of a name; -1: there is none. -/
def placeN (s : ByteArray) (n : Nat) : Option Nat := (List.range n).find? fun i => decide (nameB i = s)
def placeI (s : ByteArray) : Int := match placeN s 10 with
  | some k => (k : Int)
  | none => -1
theorem placeN_succ (s : ByteArray) (n : Nat) : placeN s (n + 1) = (placeN s n).or (if nameB n = s then some n else none) := by
  unfold placeN
  rw [List.range_succ, List.find?_append]
  congr 1
  by_cases h : nameB n = s
  · simp [List.find?, h]
  · simp [List.find?, h]
theorem placeN_lt {s : ByteArray} {n k : Nat} (h : placeN s n = some k) : k < n ∧ nameB k = s := by
  unfold placeN at h
  have h1 := List.find?_some h
  have h2 := List.mem_of_find?_eq_some h
  exact ⟨List.mem_range.1 h2, by simpa using h1⟩
theorem placeN_mono {s : ByteArray} {n m k : Nat} (h : placeN s n = some k) (hm : n ≤ m) : placeN s m = some k := by
  induction m with
  | zero =>
    have : n = 0 := by omega
    subst this
    exact h
  | succ m ih =>
    by_cases hn : n = m + 1
    · rw [← hn]
      exact h
    · rw [placeN_succ, ih (by omega)]
      rfl
end Go.Proofs.YtbpeienllhbffaaDoor
