/-
  Three numbers are equal to themselves.
-/
import Derived.Test.YtkmfhcjdajbbhaaPersistAny
import Derived.ChangeKeysEq
namespace Go.Proofs.Ytkmfhcjdajbbhaa
open Go.RowKit
theorem part_int (xs : Array Value) (o : Nat) (n : Int) (h : xs[o]? = some (.int .i64 n)) (W : World) : (part 3 xs o).run Try.prog W = .ok (.int .i64 n) W := by
  simp [part, go_sem, h]
theorem eq3 (a b c : Int) (W : World) : (Op.equalIn 10000 45 (.agg #[.int .i64 a, .int .i64 b, .int .i64 c]) (.agg #[.int .i64 a, .int .i64 b, .int .i64 c])).run Try.prog W = .ok true W := by
  obtain ⟨i, hi⟩ : ∃ i, Try.prog.info? 3 = some i := Option.isSome_iff_exists.1 (by kernel_rfl)
  have hc : Try.prog.cellsOf 3 = 1 := by kernel_rfl
  have hu : Try.prog.underlying 3 = some (.int .i64) := by kernel_rfl
  rw [show 10000 = 9999 + 1 from rfl, run_equalIn_array W 9999 _ _ (show Try.prog.underlying 45 = some (.array 3 3) by kernel_rfl) hi, hc]
  have h0 : ∀ V, (Op.equalIn 9999 3 (.int .i64 a) (.int .i64 a)).run Try.prog V = .ok true V := fun V => by rw [show 9999 = 9998 + 1 from rfl, run_equalIn_int V 9998 _ .i64 .i64 a a hu]; simp
  have h1 : ∀ V, (Op.equalIn 9999 3 (.int .i64 b) (.int .i64 b)).run Try.prog V = .ok true V := fun V => by rw [show 9999 = 9998 + 1 from rfl, run_equalIn_int V 9998 _ .i64 .i64 b b hu]; simp
  have h2 : ∀ V, (Op.equalIn 9999 3 (.int .i64 c) (.int .i64 c)).run Try.prog V = .ok true V := fun V => by rw [show 9999 = 9998 + 1 from rfl, run_equalIn_int V 9998 _ .i64 .i64 c c hu]; simp
  simp [Op.eqItems, List.range_succ, Sem.run_bind, part_int #[.int .i64 a, .int .i64 b, .int .i64 c] 0 a rfl, part_int #[.int .i64 a, .int .i64 b, .int .i64 c] 1 b rfl, part_int #[.int .i64 a, .int .i64 b, .int .i64 c] 2 c rfl, h0, h1, h2]
end Go.Proofs.Ytkmfhcjdajbbhaa
