/-
 Layer 20 (conf): a setting, its rows, its text, in plain Lean.
-/
import Derived.Lib.FieldsP
import Derived.Lib.AtoiAll
import Derived.Lib.ItoaNum
import Derived.Lib.Split
namespace Go.Proofs.Ytidfngcclbhoaaa
set_option linter.unusedSimpArgs false
set_option linter.unusedVariables false
open Go

structure CF where
 sv : Bool
 d : Int
 first : Int
 most : Int
 rtt : Int
 delay : Int
 ex : Int
 burst : Int
 room : Int
 backs : Int
deriving DecidableEq
def CF.vals (c : CF) : List Int := [if c.sv then 1 else 0, c.d, c.first, c.most, c.rtt, c.delay, c.ex, c.burst, c.room, c.backs]
theorem CF.vals_length (c : CF) : c.vals.length = 10 := rfl
/-- A setting of a row of numbers. -/
def ofVals (vs : List Int) : CF := ⟨decide (vs.getD 0 0 = 1), vs.getD 1 0, vs.getD 2 0, vs.getD 3 0, vs.getD 4 0, vs.getD 5 0, vs.getD 6 0, vs.getD 7 0, vs.getD 8 0, vs.getD 9 0⟩
theorem ofVals_vals (c : CF) : ofVals c.vals = c := by
 obtain ⟨sv, d, first, most, rtt, delay, ex, burst, room, backs⟩ := c
 cases sv <;> rfl
def zeroCF : CF := ⟨false, 0, 0, 0, 0, 0, 0, 0, 0, 0⟩
def defaultCF (sv : Bool) : CF := ⟨sv, 1200, 12000, 16777216, 333000000, 25000000, 3, 12000, 256, 6⟩
def nameB : Nat → ByteArray
 | 0 => ⟨#[115, 101, 114, 118, 101, 114]⟩
 | 1 => ⟨#[100, 97, 116, 97, 103, 114, 97, 109]⟩
 | 2 => ⟨#[102, 105, 114, 115, 116]⟩
 | 3 => ⟨#[109, 111, 115, 116]⟩
 | 4 => ⟨#[114, 116, 116]⟩
 | 5 => ⟨#[100, 101, 108, 97, 121]⟩
 | 6 => ⟨#[101, 120, 112]⟩
 | 7 => ⟨#[98, 117, 114, 115, 116]⟩
 | 8 => ⟨#[114, 111, 111, 109]⟩
 | _ => ⟨#[98, 97, 99, 107, 115]⟩
def valF (c : CF) (i : Nat) : Int := c.vals.getD i 0
def loF (c : CF) : Nat → Int
 | 0 => 0
 | 1 => 1200
 | 2 => 2 * c.d
 | 3 => 2 * c.d
 | 4 => 1000000
 | 5 => 0
 | 6 => 0
 | 7 => c.d
 | 8 => 2
 | _ => 0
def hiF (c : CF) : Nat → Int
 | 0 => 1
 | 1 => 65527
 | 2 => c.most
 | 3 => 1099511627776
 | 4 => 60000000000
 | 5 => 16384000000
 | 6 => 20
 | 7 => 1073741824
 | 8 => 256
 | _ => 10
def rowOk (c : CF) (i : Nat) : Bool := decide (loF c i ≤ valF c i) && decide (valF c i ≤ hiF c i)
def rowsOk (c : CF) (n : Nat) : Bool := (List.range n).all (rowOk c)
theorem rowsOk_succ (c : CF) (n : Nat) : rowsOk c (n + 1) = (rowsOk c n && rowOk c n) := by
 unfold rowsOk
 rw [List.range_succ, List.all_append]
 simp
theorem rowsOk_le {c : CF} {n m : Nat} (h : rowsOk c m = true) (hn : n ≤ m) : rowsOk c n = true := by
 unfold rowsOk at h ⊢
 rw [List.all_eq_true] at h ⊢
 intro x hx
 exact h x (List.mem_range.2 (by have := List.mem_range.1 hx; omega))
theorem rowsOk_row {c : CF} {n i : Nat} (h : rowsOk c n = true) (hi : i < n) : rowOk c i = true := by
 unfold rowsOk at h
 rw [List.all_eq_true] at h
 exact h i (List.mem_range.2 hi)
def dOk (c : CF) : Bool := decide (1200 ≤ c.d) && decide (c.d ≤ 65527)
def okC (c : CF) : Bool := dOk c && rowsOk c 10
def errC (c : CF) : Int := if okC c then 0 else 9
def offF (i : Nat) : Nat := if i = 0 then 10 else i
end Go.Proofs.Ytidfngcclbhoaaa
