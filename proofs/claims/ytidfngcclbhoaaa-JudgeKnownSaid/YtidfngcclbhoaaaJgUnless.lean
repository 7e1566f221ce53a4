/-
 Layer 24 (judge): unless, isSpace: their walks; a row, in cells.
-/
import Derived.Test.YtidfngcclbhoaaaJgFits
namespace Go.Proofs.Ytidfngcclbhoaaa
open Go.Value renaming int → ZI
open Go.IntKind renaming i64 → ZQ
set_option linter.unusedSimpArgs false
set_option linter.unusedVariables false
open Go.RowKit Go.Shelf
theorem unless_yes (rule : Int) (w : World) : Calls Try.prog 23 #[.bool true, ZI ZQ rule] w fun e w' => e = .returned (.tuple #[]) ∧ w = w' := by
 go_enter Try.func23, Try.ntmps23
 go_wp2_with fail
 go_end0
 exact ⟨rfl, rfl⟩
theorem unless_no (rule : Int) (w : World) : Calls Try.prog 23 #[.bool false, ZI ZQ rule] w fun e w' => e = .panicked [{ v := .iface 3 (ZI ZQ rule), recovered := false }] ∧ w = w' := by
 go_enter Try.func23, Try.ntmps23
 go_wp2_with fail
 exact ⟨rfl, rfl, rfl⟩
theorem isspace_any (n : Int) (w : World) : Calls Try.prog 53 #[ZI ZQ n] w fun e w' => e = .returned (.bool (decide (0 ≤ n) && decide (n < 3))) ∧ w = w' := by
 by_cases h0 : 0 ≤ n
 ·by_cases h1 : n < 3
  ·go_enter Try.func53, Try.ntmps53
   go_wp2_with fail
   go_ret
   exact ⟨by simp [h0, h1], rfl⟩
  ·go_enter Try.func53, Try.ntmps53
   go_wp2_with fail
   go_ret
   exact ⟨by simp [h0, h1], rfl⟩
 ·go_enter Try.func53, Try.ntmps53
  go_wp2_with fail
  go_ret
  have hd : decide (0 ≤ n) = false := decide_eq_false (by omega)
  exact ⟨by rw [hd]; rfl, rfl⟩
/-- A row: a call, and its answer; its ranges and its events lie elsewhere. -/
structure RW where
 kind : Int
 t : Int
 sp : Int
 size : Int
 o : OUT
 delay : Int
 ra : Option Addr
 rn : Nat
 rc : Nat
 marked : Bool
 e0 : Int
 e1 : Int
 e2 : Int
 ea : Option Addr
 en : Nat
 ec : Nat
 err : Int
 smooth : Int
def rwC (r : RW) : Array Value :=
 #[ZI ZQ r.kind, ZI ZQ r.t, ZI ZQ r.sp, ZI ZQ r.size, ZI ZQ r.o.sp, ZI ZQ r.o.num, ZI ZQ r.o.size, .bool r.o.el, .bool r.o.fl, .bool r.o.pr, .bool r.o.ect,
  ZI ZQ r.delay, .slice r.ra r.rn r.rc, .bool r.marked, ZI ZQ r.e0, ZI ZQ r.e1, ZI ZQ r.e2, .slice r.ea r.en r.ec, ZI ZQ r.err, ZI ZQ r.smooth]
end Go.Proofs.Ytidfngcclbhoaaa
