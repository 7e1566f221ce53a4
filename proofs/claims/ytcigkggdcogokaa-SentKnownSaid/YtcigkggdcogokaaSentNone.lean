/-
  The packets' log: logs that are none (nil, or the zero value).
-/
import Derived.Test.YtcigkggdcogokaaSentPl
namespace Go.Proofs.Ytcigkggdcogokaa
open Go.RowKit

/-- A log that is none. -/
def NoLog (w : World) (v : Value) : Prop := v = .pointer none ∨ ∃ b, v = .pointer (some ⟨b, 0, none⟩) ∧ Blk w b 62 #[.int .i64 0, .int .i64 0, .slice none 0 0, .int .i64 0, .int .i64 0, .int .i64 0, .int .i64 0, .int .i64 0]
theorem NoLog.below {w w' : World} {v : Value} (h : NoLog w v) (hb : Below w.heap.size w w') : NoLog w' v := by
  rcases h with h | ⟨b, h, hB⟩
  · exact .inl h
  · exact .inr ⟨b, h, (only_of_below hb (S := [])).blk hB (by simp)⟩
theorem NoLog.alloc {w : World} {v : Value} (h : NoLog w v) (o : Obj) : NoLog (w.alloc o) v := h.below ((Below.refl _ _).alloc (Nat.le_refl _) o)
theorem none_v (v : Value) (w : World) (h : NoLog w v) : Calls Try.prog 33 #[v] w fun e w' => e = .returned (.bool true) ∧ w = w' := by
  rcases h with rfl | ⟨b, rfl, hB⟩
  · exact none_nil w
  · exact none_zero b w (hB.cell 0)

set_option maxHeartbeats 1000000 in
theorem slot_v (v : Value) (n : Int) (w : World) (h : NoLog w v) : Calls Try.prog 38 #[v, .int .i64 n] w fun e w' => e = .returned (.pointer none) ∧ w = w' := by
  have h0 := h
  rcases h with rfl | ⟨b, rfl, hB⟩
  all_goals
    go_enter Try.func38, Try.ntmps38
    go_wp2_with (first | (go_at_call 33; refine (none_v _ _ h0).mono ?_; rintro e1 w1 ⟨rfl, rfl⟩))
    go_ret
    exact ⟨rfl, rfl⟩
set_option maxHeartbeats 1000000 in
theorem get_v (v : Value) (n : Int) (w : World) (h : NoLog w v) : Calls Try.prog 17 #[v, .int .i64 n] w fun e w' => e = .returned (.tuple #[.agg #[.int .i64 0, .int .i64 0, .int .i64 0, .bool false, .bool false, .bool false], .bool false]) ∧ Below w.heap.size w w' := by
  have h0 := h
  rcases h with rfl | ⟨b, rfl, hB⟩
  all_goals
    go_enter Try.func17, Try.ntmps17
    go_wp2_with (first | (go_at_call 38; refine (slot_v _ _ _ (h0.alloc _)).mono ?_; rintro e1 w1 ⟨rfl, rfl⟩))
    refine bodyPost_ret (v := .tuple #[.agg #[.int .i64 0, .int .i64 0, .int .i64 0, .bool false, .bool false, .bool false], .bool false]) (by simp [results, Try.results17, go_sem]) rfl ⟨rfl, ?_⟩
    refine Only.of_nil ?_
    repeat (first | with_reducible refine Only.setCell ?_ (.inr (Nat.le_refl _)) _ | with_reducible refine Only.drewN ?_ _)
    exact (Only.refl [] w).alloc _
set_option maxHeartbeats 1000000 in
theorem drop_v (v : Value) (n : Int) (w : World) (h : NoLog w v) : Calls Try.prog 13 #[v, .int .i64 n] w fun e w' => e = .returned (.tuple #[.agg #[.int .i64 0, .int .i64 0, .int .i64 0, .bool false, .bool false, .bool false], .bool false]) ∧ Below w.heap.size w w' := by
  have h0 := h
  rcases h with rfl | ⟨b, rfl, hB⟩
  all_goals
    go_enter Try.func13, Try.ntmps13
    go_wp2_with (first | (go_at_call 38; refine (slot_v _ _ _ (h0.alloc _)).mono ?_; rintro e1 w1 ⟨rfl, rfl⟩))
    refine bodyPost_ret (v := .tuple #[.agg #[.int .i64 0, .int .i64 0, .int .i64 0, .bool false, .bool false, .bool false], .bool false]) (by simp [results, Try.results13, go_sem]) rfl ⟨rfl, ?_⟩
    refine Only.of_nil ?_
    repeat (first | with_reducible refine Only.setCell ?_ (.inr (Nat.le_refl _)) _ | with_reducible refine Only.drewN ?_ _)
    exact (Only.refl [] w).alloc _
set_option maxHeartbeats 1000000 in
theorem oldest_v (v : Value) (w : World) (h : NoLog w v) : Calls Try.prog 32 #[v] w fun e w' => e = .returned (.tuple #[.agg #[.int .i64 0, .int .i64 0, .int .i64 0, .bool false, .bool false, .bool false], .bool false]) ∧ Below w.heap.size w w' := by
  have h0 := h
  rcases h with rfl | ⟨b, rfl, hB⟩
  all_goals
    go_enter Try.func32, Try.ntmps32
    go_wp2_with (first | (go_at_call 33; refine (none_v _ _ (h0.alloc _)).mono ?_; rintro e1 w1 ⟨rfl, rfl⟩))
    refine bodyPost_ret (v := .tuple #[.agg #[.int .i64 0, .int .i64 0, .int .i64 0, .bool false, .bool false, .bool false], .bool false]) (by simp [results, Try.results32, go_sem]) rfl ⟨rfl, ?_⟩
    refine Only.of_nil ?_
    repeat (first | with_reducible refine Only.setCell ?_ (.inr (Nat.le_refl _)) _ | with_reducible refine Only.drewN ?_ _)
    exact (Only.refl [] w).alloc _
set_option maxHeartbeats 1000000 in
theorem clear_v (v : Value) (w : World) (h : NoLog w v) : Calls Try.prog 14 #[v] w fun e w' => e = .returned (.tuple #[]) ∧ w = w' := by
  have h0 := h
  rcases h with rfl | ⟨b, rfl, hB⟩
  all_goals
    go_enter Try.func14, Try.ntmps14
    go_wp2_with (first | (go_at_call 33; refine (none_v _ _ h0).mono ?_; rintro e1 w1 ⟨rfl, rfl⟩))
    refine bodyPost_ret (results_none rfl _ _ _) rfl ?_
    exact ⟨rfl, rfl⟩
set_option maxHeartbeats 1000000 in
theorem put_v (v : Value) (n t s : Int) (e0 f c : Bool) (w : World) (h : NoLog w v) : Calls Try.prog 11 #[v, .agg #[.int .i64 n, .int .i64 t, .int .i64 s, .bool e0, .bool f, .bool c]] w fun e w' => e = .returned (.int .i64 1) ∧ Below w.heap.size w w' := by
  have h0 := h
  rcases h with rfl | ⟨b, rfl, hB⟩
  all_goals
    go_enter Try.func11, Try.ntmps11
    go_wp2_with (first | (go_at_call 33; refine (none_v _ _ (h0.alloc _)).mono ?_; rintro e1 w1 ⟨rfl, rfl⟩))
    go_ret
    exact ⟨rfl, (Below.refl _ _).alloc (Nat.le_refl _) _⟩
set_option maxHeartbeats 1000000 in
theorem last_v (v : Value) (w : World) (h : NoLog w v) : Calls Try.prog 15 #[v] w fun e w' => e = .returned (.int .i64 (-1)) ∧ w = w' := by
  have h0 := h
  rcases h with rfl | ⟨b, rfl, hB⟩
  all_goals
    go_enter Try.func15, Try.ntmps15
    go_wp2_with (first | (go_at_call 33; refine (none_v _ _ h0).mono ?_; rintro e1 w1 ⟨rfl, rfl⟩))
    go_ret
    exact ⟨rfl, rfl⟩
set_option maxHeartbeats 1000000 in
theorem total_v (v : Value) (u : Value) (w : World) (h : NoLog w v) : Calls Try.prog 40 #[v, u] w fun e w' => e = .returned (.int .i64 0) ∧ w = w' := by
  have h0 := h
  rcases h with rfl | ⟨b, rfl, hB⟩
  all_goals
    go_enter Try.func40, Try.ntmps40
    go_wp2_with (first | (go_at_call 33; refine (none_v _ _ h0).mono ?_; rintro e1 w1 ⟨rfl, rfl⟩))
    go_ret
    exact ⟨rfl, rfl⟩
set_option maxHeartbeats 1000000 in
theorem len_v (v : Value) (w : World) (h : NoLog w v) : Calls Try.prog 20 #[v] w fun e w' => e = .returned (.int .i64 0) ∧ Below w.heap.size w w' := by
  have h0 := h
  rcases h with rfl | ⟨b, rfl, hB⟩
  all_goals
    go_enter Try.func20, Try.ntmps20
    go_wp2_with (first | (go_at_call 40; refine (total_v _ _ _ (h0.alloc _)).mono ?_; rintro e1 w1 ⟨rfl, rfl⟩))
    go_ret
    exact ⟨rfl, (Below.refl _ _).alloc (Nat.le_refl _) _⟩
set_option maxHeartbeats 1000000 in
theorem flight_v (v : Value) (w : World) (h : NoLog w v) : Calls Try.prog 18 #[v] w fun e w' => e = .returned (.int .i64 0) ∧ Below w.heap.size w w' := by
  have h0 := h
  rcases h with rfl | ⟨b, rfl, hB⟩
  all_goals
    go_enter Try.func18, Try.ntmps18
    go_wp2_with (first | (go_at_call 40; refine (total_v _ _ _ (h0.alloc _)).mono ?_; rintro e1 w1 ⟨rfl, rfl⟩))
    go_ret
    exact ⟨rfl, (Below.refl _ _).alloc (Nat.le_refl _) _⟩
set_option maxHeartbeats 1000000 in
theorem elic_v (v : Value) (w : World) (h : NoLog w v) : Calls Try.prog 19 #[v] w fun e w' => e = .returned (.int .i64 0) ∧ Below w.heap.size w w' := by
  have h0 := h
  rcases h with rfl | ⟨b, rfl, hB⟩
  all_goals
    go_enter Try.func19, Try.ntmps19
    go_wp2_with (first | (go_at_call 40; refine (total_v _ _ _ (h0.alloc _)).mono ?_; rintro e1 w1 ⟨rfl, rfl⟩))
    go_ret
    exact ⟨rfl, (Below.refl _ _).alloc (Nat.le_refl _) _⟩
set_option maxHeartbeats 1000000 in
theorem each_v (v : Value) (lo hi : Int) (u : Value) (w : World) (h : NoLog w v) : Calls Try.prog 44 #[v, .int .i64 lo, .int .i64 hi, u] w fun e w' => e = .returned (.tuple #[]) ∧ w = w' := by
  have h0 := h
  rcases h with rfl | ⟨b, rfl, hB⟩
  all_goals
    go_enter Try.func44, Try.ntmps44
    go_wp2_with (first | (go_at_call 33; refine (none_v _ _ h0).mono ?_; rintro e1 w1 ⟨rfl, rfl⟩))
    refine bodyPost_ret (results_none rfl _ _ _) rfl ?_
    exact ⟨rfl, rfl⟩
set_option maxHeartbeats 1000000 in
theorem between_v (v : Value) (lo hi : Int) (w : World) (h : NoLog w v) : Calls Try.prog 22 #[v, .int .i64 lo, .int .i64 hi] w fun e w' => e = .returned (.slice none 0 0) ∧ Below w.heap.size w w' := by
  have h0 := h
  rcases h with rfl | ⟨b, rfl, hB⟩
  all_goals
    go_enter Try.func22, Try.ntmps22
    go_wp2_with (first | (go_at_call 44; refine (each_v _ _ _ _ _ (h0.alloc _)).mono ?_; rintro e1 w1 ⟨rfl, rfl⟩))
    go_ret
    exact ⟨rfl, (Below.refl _ _).alloc (Nat.le_refl _) _⟩
set_option maxHeartbeats 1000000 in
theorem all_v (v : Value) (w : World) (h : NoLog w v) : Calls Try.prog 21 #[v] w fun e w' => e = .returned (.slice none 0 0) ∧ Below w.heap.size w w' := by
  have h0 := h
  rcases h with rfl | ⟨b, rfl, hB⟩
  all_goals
    go_enter Try.func21, Try.ntmps21
    go_wp2_with (first | (go_at_call 22; refine (between_v _ _ _ _ h0).mono ?_; rintro e1 w1 ⟨rfl, hb1⟩))
    go_ret
    exact ⟨rfl, hb1⟩
set_option maxHeartbeats 1000000 in
theorem copy_v (v : Value) (w : World) (h : NoLog w v) : Calls Try.prog 28 #[v] w fun e w' => e = .returned (.pointer none) ∧ w = w' := by
  have h0 := h
  rcases h with rfl | ⟨b, rfl, hB⟩
  all_goals
    go_enter Try.func28, Try.ntmps28
    go_wp2_with (first | (go_at_call 33; refine (none_v _ _ h0).mono ?_; rintro e1 w1 ⟨rfl, rfl⟩))
    go_ret
    exact ⟨rfl, rfl⟩
end Go.Proofs.Ytcigkggdcogokaa
