/-
  The statement SentPlays, of rooms that may not be; of all rooms.
-/
import Derived.Test.YtcigkggdcogokaaSentPlays
namespace Go.Proofs.Ytcigkggdcogokaa
open Go.RowKit

set_option maxRecDepth 100000 in
set_option maxHeartbeats 4000000 in
theorem sentplays_no (room : Int) (a : Option Addr) (len cap : Nat) (w : World) (_ : len ≤ 9223372036854775807) (h : room < 1 ∨ 256 < room) :
    Calls Try.prog 7 #[.int .i64 room, .slice a len cap] w fun e w' => e = .returned (.bool true) ∧ Below w.heap.size w w' := by
  have H := hide h
  clear h
  by_cases hl : 0 < len
  · go_enter Try.func7, Try.ntmps7
    go_wp2_with fail
    refine (new_no room _ H.out).mono ?_
    rintro e1 w1 ⟨rfl, rfl⟩
    go_wp2_with fail
    refine (rnew_no room _ H.out).mono ?_
    rintro e2 w2 ⟨rfl, rfl⟩
    go_wp2_with fail
    refine wp_loop_rounds 1 ?_
    rw [rounds_succ]
    go_wp2_with fail
    refine (works_any _).mono ?_
    rintro e3 w3 ⟨rfl, hB3⟩
    go_wp2_with fail
    go_ret
    exact ⟨rfl, hB3⟩
  · go_enter Try.func7, Try.ntmps7
    go_wp2_with fail
    refine (new_no room _ H.out).mono ?_
    rintro e1 w1 ⟨rfl, rfl⟩
    go_wp2_with fail
    refine (rnew_no room _ H.out).mono ?_
    rintro e2 w2 ⟨rfl, rfl⟩
    go_wp2_with fail
    refine wp_loop_rounds 1 ?_
    rw [rounds_succ]
    go_wp2_with fail
    refine (works_any _).mono ?_
    rintro e3 w3 ⟨rfl, hB3⟩
    go_wp2_with fail
    go_ret
    exact ⟨rfl, hB3⟩

theorem sentplays_any (room : Int) (a : Option Addr) (len cap : Nat) (w : World) (hz : RowsK w a len doKinds) :
    Calls Try.prog 7 #[.int .i64 room, .slice a len cap] w fun e w' => e = .returned (.bool true) ∧ Below w.heap.size w w' := by
  by_cases h : room < 1 ∨ 256 < room
  · exact sentplays_no room a len cap w hz.1 h
  · obtain ⟨n, hn⟩ := Int.eq_ofNat_of_zero_le (show 0 ≤ room by omega)
    subst hn
    exact sentplays_ok n a len cap w hz (by omega) (by omega)
end Go.Proofs.Ytcigkggdcogokaa
