/-
  Bring: a number, brought into bounds.
-/
import Derived.Test.YtidfngcclbhoaaaBase
import Derived.Test.YtidfngcclbhoaaaRows
namespace Go.Proofs.Ytidfngcclbhoaaa
open Go.RowKit

theorem tmod_neg (i n : Int) (hn : 1 ≤ n) (hi : i < 0) : (i % n = 0 ∧ i.tmod n = 0) ∨ (1 ≤ i % n ∧ i.tmod n = i % n - n) := by
  have h0 := Int.emod_nonneg i (show n ≠ 0 by omega)
  rw [Int.tmod_eq_emod]
  by_cases hd : n ∣ i
  · left
    have := Int.emod_eq_zero_of_dvd hd
    rw [this]; simp [hd]
  · right
    have h1 : i % n ≠ 0 := fun h => hd (Int.dvd_of_emod_eq_zero h)
    have h2 : ¬ (0 ≤ i ∨ n ∣ i) := by intro h; rcases h with h | h; omega; exact hd h
    rw [if_neg h2]
    omega

set_option maxHeartbeats 400000 in
theorem bring_any (i n : Int) (w : World) (hn : 1 ≤ n) (hn2 : n ≤ 4611686018427387904) (hi : -9223372036854775808 ≤ i) (hi2 : i ≤ 9223372036854775807) :
    Calls Try.prog 5 #[.int .i64 i, .int .i64 n] w fun e w' => e = .returned (.int .i64 (i % n)) ∧ w = w' := by
  have b0 := Int.emod_nonneg i (show n ≠ 0 by omega)
  have b1 := Int.emod_lt_of_pos i (show 0 < n by omega)
  have hz : (n == 0) = false := by rw [beq_eq_false_iff_ne]; omega
  by_cases h : 0 ≤ i
  · go_enter Try.func5, Try.ntmps5
    go_wp2
    go_ret
    exact ⟨rfl, rfl⟩
  · have h' : i < 0 := by omega
    rcases tmod_neg i n hn h' with ⟨h1, h2⟩ | ⟨h1, h2⟩
    · have H1 := hide h1
      have H2 := hide h2
      have c0 : 0 ≤ i.tmod n := by omega
      clear h1 h2
      go_enter Try.func5, Try.ntmps5
      go_wp2
      go_ret
      exact ⟨ret_int (by rw [H1.out]; exact H2.out), rfl⟩
    · have H2 := hide h2
      have c0 : i.tmod n < 0 := by omega
      have c1 : 0 ≤ i.tmod n + n := by omega
      have c2 : i.tmod n + n ≤ n := by omega
      clear h2
      go_enter Try.func5, Try.ntmps5
      go_wp2
      go_ret
      exact ⟨ret_int (by have := H2.out; show i.tmod n + n = i % n; omega), rfl⟩
end Go.Proofs.Ytidfngcclbhoaaa
