/-
  Layer 24 (judge): unless, isSpace: their walks; a row, in cells.
-/
import Derived.Test.YtidfngcclbhoaaaJgFits
namespace Go.Proofs.Ytidfngcclbhoaaa
set_option linter.unusedSimpArgs false
set_option linter.unusedVariables false
open Go.RowKit Go.Shelf
theorem unless_yes (rule : Int) (w : World) : Calls Try.prog 23 #[.bool true, .int .i64 rule] w fun e w' => e = .returned (.tuple #[]) ∧ w = w' := by
  go_enter Try.func23, Try.ntmps23
  go_wp2_with fail
  go_end0
  exact ⟨rfl, rfl⟩
theorem unless_no (rule : Int) (w : World) : Calls Try.prog 23 #[.bool false, .int .i64 rule] w fun e w' => e = .panicked [{ v := .iface 3 (.int .i64 rule), recovered := false }] ∧ w = w' := by
  go_enter Try.func23, Try.ntmps23
  go_wp2_with fail
  exact ⟨rfl, rfl, rfl⟩
theorem isspace_any (n : Int) (w : World) : Calls Try.prog 53 #[.int .i64 n] w fun e w' => e = .returned (.bool (decide (0 ≤ n) && decide (n < 3))) ∧ w = w' := by
  by_cases h0 : 0 ≤ n
  · by_cases h1 : n < 3
    · go_enter Try.func53, Try.ntmps53
      go_wp2_with fail
      go_ret
      exact ⟨by simp [h0, h1], rfl⟩
    · go_enter Try.func53, Try.ntmps53
      go_wp2_with fail
      go_ret
      exact ⟨by simp [h0, h1], rfl⟩
  · go_enter Try.func53, Try.ntmps53
    go_wp2_with fail
    go_ret
    have hd : decide (0 ≤ n) = false := decide_eq_false (by omega)
    exact ⟨by rw [hd]; rfl, rfl⟩
/-- A row: a call, and its answer; its ranges and its events lie elsewhere. -/
structure RW where
  kind : Int
  t : Int
  sp : Int
  size : Int
  o : OUT
  delay : Int
  ra : Option Addr
  rn : Nat
  rc : Nat
  marked : Bool
  e0 : Int
  e1 : Int
  e2 : Int
  ea : Option Addr
  en : Nat
  ec : Nat
  err : Int
  smooth : Int
def rwC (r : RW) : Array Value :=
  #[.int .i64 r.kind, .int .i64 r.t, .int .i64 r.sp, .int .i64 r.size, .int .i64 r.o.sp, .int .i64 r.o.num, .int .i64 r.o.size, .bool r.o.el, .bool r.o.fl, .bool r.o.pr, .bool r.o.ect,
    .int .i64 r.delay, .slice r.ra r.rn r.rc, .bool r.marked, .int .i64 r.e0, .int .i64 r.e1, .int .i64 r.e2, .slice r.ea r.en r.ec, .int .i64 r.err, .int .i64 r.smooth]
end Go.Proofs.Ytidfngcclbhoaaa
