/-
  event.read, in plain Lean: the event of a line.
-/
import Derived.Test.YtbpeienllhbffaaDoorEvForms
import Derived.Test.YtbpeienllhbffaaDoorCfPlainB
import Derived.Lib.SplitLaws
namespace Go.Proofs.YtbpeienllhbffaaDoor
set_option linter.unusedSimpArgs false
set_option linter.unusedVariables false
open Go

def spB : ByteArray := ⟨#[32]⟩
/-- What stands between the blanks. -/
def partsB (s : ByteArray) : List ByteArray := Lib.splitB spB 0 (Lib.countB s spB) s
theorem parts_length (s : ByteArray) : (partsB s).length = Lib.countB s spB + 1 := Lib.splitB_all spB (by decide) 0 _ s rfl
def partAt (ws : List ByteArray) (i : Nat) : ByteArray := ws.getD i ⟨#[]⟩
/-- A number as Itoa writes it, 16 signs at most. -/
def numZ (s : ByteArray) : Option Int := match Lib.atoiAll s.data.toList with
  | .ok v => if s.size ≤ 16 ∧ Lib.itoa v = s.data.toList then some v else none
  | _ => none
def fitsK (ws : List ByteArray) (k : Nat) : Bool := decide (wordF k = partAt ws 0) && decide (ws.length = (fieldsF k).length + 1)
/-- The kind that a line's words have. -/
def kindW (ws : List ByteArray) : Option Nat := if fitsK ws 1 then some 1 else if fitsK ws 2 then some 2 else if fitsK ws 3 then some 3 else if fitsK ws 4 then some 4 else if fitsK ws 5 then some 5 else if fitsK ws 6 then some 6 else none
theorem word_inj : ∀ i < 7, ∀ j < 7, 1 ≤ i → 1 ≤ j → wordF i = wordF j → i = j := by decide +kernel
theorem kindW_some {ws : List ByteArray} {k : Nat} : kindW ws = some k ↔ (1 ≤ k ∧ k ≤ 6) ∧ fitsK ws k = true := by
  have key : ∀ i j, 1 ≤ i → i ≤ 6 → 1 ≤ j → j ≤ 6 → fitsK ws i = true → fitsK ws j = true → i = j := fun i j h1 h2 h3 h4 hi hj => by
    unfold fitsK at hi hj
    simp only [Bool.and_eq_true, decide_eq_true_eq] at hi hj
    exact word_inj i (by omega) j (by omega) h1 h3 (hi.1.trans hj.1.symm)
  constructor
  · intro h
    unfold kindW at h
    repeat' split at h
    all_goals first | (injection h with h; subst h; exact ⟨by omega, by assumption⟩) | cases h
  · rintro ⟨⟨h1, h2⟩, hf⟩
    cases hk : kindW ws with
    | none =>
      unfold kindW at hk
      repeat' split at hk
      all_goals first | cases hk | skip
      have : k = 1 ∨ k = 2 ∨ k = 3 ∨ k = 4 ∨ k = 5 ∨ k = 6 := by omega
      rcases this with rfl | rfl | rfl | rfl | rfl | rfl <;> contradiction
    | some j =>
      have hj : (1 ≤ j ∧ j ≤ 6) ∧ fitsK ws j = true := by
        unfold kindW at hk
        repeat' split at hk
        all_goals first | (injection hk with hk; subst hk; exact ⟨by omega, by assumption⟩) | cases hk
      rw [key j k hj.1.1 hj.1.2 h1 h2 hj.2 hf]
/-- The event when the first numbers have been read. -/
def evN (ws : List ByteArray) (fs : List Fd) (e : EV) : Nat → Option EV
  | 0 => some e
  | i + 1 => match evN ws fs e i with
    | none => none
    | some x => match numZ (partAt ws (i + 1)) with
      | none => none
      | some v => some (x.set (match fs[i]? with | some f => f.j | none => 1) v)
def evOf (ws : List ByteArray) (k : Nat) : Option EV := evN ws (fieldsF k) { zeroEV with kind := k } (fieldsF k).length
theorem evN_le {ws : List ByteArray} {fs : List Fd} {e : EV} {i : Nat} (h : evN ws fs e i = none) : ∀ m, i ≤ m → evN ws fs e m = none := by
  intro m hm
  induction m with
  | zero =>
    obtain rfl : i = 0 := by omega
    exact h
  | succ m ih =>
    by_cases hi : i = m + 1
    · rw [← hi]
      exact h
    · rw [evN, ih (by omega)]
/-- The event of a line: none, if it is no event's. -/
def readW (ws : List ByteArray) : Option EV := match kindW ws with
  | none => none
  | some k => match evOf ws k with
    | none => none
    | some e => if okEV e then some e else none
def readE (s : ByteArray) : Option EV := readW (partsB s)
/-- What the event is while the forms are gone through. -/
def CurEv (ws : List ByteArray) (seen : Array Nat) (e : EV) : Prop := match kindW ws with
  | none => e = zeroEV
  | some k => if seen.contains (k - 1) then evOf ws k = some e else e = zeroEV
end Go.Proofs.YtbpeienllhbffaaDoor
