/-
  The statements of the packets' log: small helpers (Bring, one).
-/
import Derived.Test.YtcigkggdcogokaaSentCopy
import Derived.Test.YtcigkggdcogokaaSentPut
namespace Go.Proofs.Ytcigkggdcogokaa
open Go.RowKit

theorem tmod_neg (i n : Int) (hn : 1 ≤ n) (hi : i < 0) : (i % n = 0 ∧ i.tmod n = 0) ∨ (1 ≤ i % n ∧ i.tmod n = i % n - n) := by
  have h0 := Int.emod_nonneg i (show n ≠ 0 by omega)
  rw [Int.tmod_eq_emod]
  by_cases hd : n ∣ i
  · left
    have := Int.emod_eq_zero_of_dvd hd
    rw [this]; simp [hd]
  · right
    have h1 : i % n ≠ 0 := fun h => hd (Int.dvd_of_emod_eq_zero h)
    have h2 : ¬ (0 ≤ i ∨ n ∣ i) := by intro h; rcases h with h | h; omega; exact hd h
    rw [if_neg h2]
    omega

set_option maxHeartbeats 400000 in
theorem bring_any (i n : Int) (w : World) (hn : 1 ≤ n) (hn2 : n ≤ 4611686018427387904) (hi : -9223372036854775808 ≤ i) (hi2 : i ≤ 9223372036854775807) :
    Calls Try.prog 10 #[.int .i64 i, .int .i64 n] w fun e w' => e = .returned (.int .i64 (i % n)) ∧ w = w' := by
  have b0 := Int.emod_nonneg i (show n ≠ 0 by omega)
  have b1 := Int.emod_lt_of_pos i (show 0 < n by omega)
  have hz : (n == 0) = false := by rw [beq_eq_false_iff_ne]; omega
  by_cases h : 0 ≤ i
  · go_enter Try.func10, Try.ntmps10
    go_wp2
    go_ret
    exact ⟨rfl, rfl⟩
  · have h' : i < 0 := by omega
    rcases tmod_neg i n hn h' with ⟨h1, h2⟩ | ⟨h1, h2⟩
    · have H1 := hide h1
      have H2 := hide h2
      have c0 : 0 ≤ i.tmod n := by omega
      clear h1 h2
      go_enter Try.func10, Try.ntmps10
      go_wp2
      go_ret
      exact ⟨ret_int (by rw [H1.out]; exact H2.out), rfl⟩
    · have H2 := hide h2
      have c0 : i.tmod n < 0 := by omega
      have c1 : 0 ≤ i.tmod n + n := by omega
      have c2 : i.tmod n + n ≤ n := by omega
      clear h2
      go_enter Try.func10, Try.ntmps10
      go_wp2
      go_ret
      exact ⟨ret_int (by have := H2.out; show i.tmod n + n = i % n; omega), rfl⟩

/-- The statements' own packet of 100 bytes. -/
def pk1 (n : Int) : Pk := ⟨n, 0, 100, true, true, false⟩
theorem one_any (n : Int) (w : World) : Calls Try.prog 12 #[.int .i64 n] w fun e w' => e = .returned (.agg #[.int .i64 n, .int .i64 0, .int .i64 100, .bool true, .bool true, .bool false]) ∧ Below w.heap.size w w' := by
  go_enter Try.func12, Try.ntmps12
  go_wp2
  refine bodyPost_ret (v := .agg #[.int .i64 n, .int .i64 0, .int .i64 100, .bool true, .bool true, .bool false]) (by simp [results, Try.results12, go_sem]) rfl ⟨rfl, ?_⟩
  refine Only.of_nil ?_
  repeat (first | with_reducible refine Only.setCell ?_ (.inr (Nat.le_refl _)) _ | with_reducible refine Only.drewN ?_ _)
  exact (Only.refl [] w).alloc _
theorem pk1_may {n : Int} (h0 : 0 ≤ n) (h1 : n ≤ 9007199254740991) : (pk1 n).may := ⟨h0, h1, by simp [pk1], by simp [pk1], by simp [pk1], by simp [pk1]⟩
end Go.Proofs.Ytcigkggdcogokaa
