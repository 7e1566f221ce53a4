/-
  The packets' log: walks of Clear, Last, of the totals, of New.
-/
import Derived.Test.YtcigkggdcogokaaSentW6
import Derived.Test.YtcigkggdcogokaaSentPack
namespace Go.Proofs.Ytcigkggdcogokaa
open Go.RowKit

/-- What Clear leaves. -/
def ClearPost (w : World) (b rb room : Nat) (last : Int) (e : Ending) (w' : World) : Prop := e = .returned (.tuple #[]) ∧ IsLog w' b rb room last [] ∧ Only [b] w w'

set_option maxHeartbeats 1000000 in
theorem clear_any (b rb room : Nat) (last : Int) (ps : List Pk) (w : World) (hL : IsLog w b rb room last ps) :
    Calls Try.prog 14 #[.pointer (some ⟨b, 0, none⟩)] w (ClearPost w b rb room last) := by
  obtain ⟨m, fr, ring, q, hC, hR, hG, hp⟩ := hL
  have hb := hC.blk.lt
  have hr1 := hC.r1
  have hfb := hC.blk.frozen
  have hm2 := hC.m2
  have c3 : w.cell? ⟨b, 3, none⟩ = some (.int .i64 fr) := hC.cell 3
  have c4 : w.cell? ⟨b, 4, none⟩ = some (.int .i64 q.length) := hC.cell 4
  have c5 : w.cell? ⟨b, 5, none⟩ = some (.int .i64 ps.length) := hC.cell 5
  have c6 : w.cell? ⟨b, 6, none⟩ = some (.int .i64 (flightOf ps)) := hC.cell 6
  have c7 : w.cell? ⟨b, 7, none⟩ = some (.int .i64 (elicOf ps)) := hC.cell 7
  have HP := hide hp
  have HM := hide hm2
  clear hp hm2
  go_enter Try.func14, Try.ntmps14
  go_wp2_with (first | (go_at_call 33; refine (none_no b room _ (hC.cell 0) hr1).mono ?_; rintro e1 w1 ⟨rfl, rfl⟩))
  go_end0
  refine ⟨rfl, ⟨m, 0, ring, [], ((((hC.setFrom (k := 0) rfl).setLong (k := 0) rfl).setMany (k := 0) rfl).setFlight 0).setElic 0, hR.none_ (by have := HM.out; omega), ⟨by simp, by simp, by simp, by simp, by simp [liveOf], hG.last⟩, rfl⟩, ?_⟩
  exact (((((Only.refl [b] w).setCell (.inl (by simp)) _).setCell (.inl (by simp)) _).setCell (.inl (by simp)) _).setCell (.inl (by simp)) _).setCell (.inl (by simp)) _

set_option maxHeartbeats 1000000 in
theorem last_any (b rb room : Nat) (last : Int) (ps : List Pk) (w : World) (hL : IsLog w b rb room last ps) :
    Calls Try.prog 15 #[.pointer (some ⟨b, 0, none⟩)] w fun e w' => e = .returned (.int .i64 last) ∧ w = w' := by
  obtain ⟨m, fr, ring, q, hC, hR, hG, hp⟩ := hL
  have hr1 := hC.r1
  have c1 : w.cell? ⟨b, 1, none⟩ = some (.int .i64 last) := hC.cell 1
  clear hp
  go_enter Try.func15, Try.ntmps15
  go_wp2_with (first | (go_at_call 33; refine (none_no b room _ (hC.cell 0) hr1).mono ?_; rintro e1 w1 ⟨rfl, rfl⟩))
  go_ret
  exact ⟨rfl, rfl⟩

theorem len_lit (x : Int) (a : Addr) (b : Nat) (w : World) (ha : w.cell? a = some (.pointer (some ⟨b, 0, none⟩))) (hx : w.cell? ⟨b, 5, none⟩ = some (.int .i64 x)) :
    Calls Try.prog 43 #[.pointer (some a)] w fun e w' => e = .returned (.int .i64 x) ∧ w = w' := by
  go_enter Try.func43, Try.ntmps43
  go_wp2
  go_ret
  exact ⟨rfl, rfl⟩
theorem len_total (x : Int) (a : Addr) (b room : Nat) (w : World) (ha : w.cell? a = some (.pointer (some ⟨b, 0, none⟩))) (h0 : w.cell? ⟨b, 0, none⟩ = some (.int .i64 room)) (h1 : 1 ≤ room) (hx : w.cell? ⟨b, 5, none⟩ = some (.int .i64 x)) :
    Calls Try.prog 40 #[.pointer (some ⟨b, 0, none⟩), .func (.func 43) #[] #[.pointer (some a)]] w fun e w' => e = .returned (.int .i64 x) ∧ w = w' := by
  go_enter Try.func40, Try.ntmps40
  go_wp2_with (first | (go_at_call 33; refine (none_no b room _ h0 h1).mono ?_; rintro e1 w1 ⟨rfl, rfl⟩) | (go_at_call 43; refine (len_lit x a b _ ha hx).mono ?_; rintro e1 w1 ⟨rfl, rfl⟩))
  go_ret
  exact ⟨rfl, rfl⟩
set_option maxHeartbeats 1000000 in
theorem len_any (b rb room : Nat) (last : Int) (ps : List Pk) (w : World) (hL : IsLog w b rb room last ps) :
    Calls Try.prog 20 #[.pointer (some ⟨b, 0, none⟩)] w fun e w' => e = .returned (.int .i64 (ps.length : Nat)) ∧ Below w.heap.size w w' := by
  obtain ⟨m, fr, ring, q, hC, hR, hG, hp⟩ := hL
  have hr1 := hC.r1
  have hC1 := hC.alloc (.cells #[.pointer (some ⟨b, 0, none⟩)] 23)
  have HS := hide (len_total _ ⟨w.heap.size, 0, none⟩ b room _ ((Blk.new w 23 #[.pointer (some ⟨b, 0, none⟩)]).cell 0) (hC1.cell 0) hr1 (hC1.cell 5))
  clear hp
  go_enter Try.func20, Try.ntmps20
  go_wp2_with (first | (go_at_call 40; refine HS.out.mono ?_; rintro e1 w1 ⟨rfl, rfl⟩))
  go_ret
  exact ⟨rfl, (Below.refl _ _).alloc (Nat.le_refl _) _⟩

theorem flight_lit (x : Int) (a : Addr) (b : Nat) (w : World) (ha : w.cell? a = some (.pointer (some ⟨b, 0, none⟩))) (hx : w.cell? ⟨b, 6, none⟩ = some (.int .i64 x)) :
    Calls Try.prog 41 #[.pointer (some a)] w fun e w' => e = .returned (.int .i64 x) ∧ w = w' := by
  go_enter Try.func41, Try.ntmps41
  go_wp2
  go_ret
  exact ⟨rfl, rfl⟩
theorem flight_total (x : Int) (a : Addr) (b room : Nat) (w : World) (ha : w.cell? a = some (.pointer (some ⟨b, 0, none⟩))) (h0 : w.cell? ⟨b, 0, none⟩ = some (.int .i64 room)) (h1 : 1 ≤ room) (hx : w.cell? ⟨b, 6, none⟩ = some (.int .i64 x)) :
    Calls Try.prog 40 #[.pointer (some ⟨b, 0, none⟩), .func (.func 41) #[] #[.pointer (some a)]] w fun e w' => e = .returned (.int .i64 x) ∧ w = w' := by
  go_enter Try.func40, Try.ntmps40
  go_wp2_with (first | (go_at_call 33; refine (none_no b room _ h0 h1).mono ?_; rintro e1 w1 ⟨rfl, rfl⟩) | (go_at_call 41; refine (flight_lit x a b _ ha hx).mono ?_; rintro e1 w1 ⟨rfl, rfl⟩))
  go_ret
  exact ⟨rfl, rfl⟩
set_option maxHeartbeats 1000000 in
theorem flight_any (b rb room : Nat) (last : Int) (ps : List Pk) (w : World) (hL : IsLog w b rb room last ps) :
    Calls Try.prog 18 #[.pointer (some ⟨b, 0, none⟩)] w fun e w' => e = .returned (.int .i64 (flightOf ps)) ∧ Below w.heap.size w w' := by
  obtain ⟨m, fr, ring, q, hC, hR, hG, hp⟩ := hL
  have hr1 := hC.r1
  have hC1 := hC.alloc (.cells #[.pointer (some ⟨b, 0, none⟩)] 23)
  have HS := hide (flight_total _ ⟨w.heap.size, 0, none⟩ b room _ ((Blk.new w 23 #[.pointer (some ⟨b, 0, none⟩)]).cell 0) (hC1.cell 0) hr1 (hC1.cell 6))
  clear hp
  go_enter Try.func18, Try.ntmps18
  go_wp2_with (first | (go_at_call 40; refine HS.out.mono ?_; rintro e1 w1 ⟨rfl, rfl⟩))
  go_ret
  exact ⟨rfl, (Below.refl _ _).alloc (Nat.le_refl _) _⟩

theorem elic_lit (x : Int) (a : Addr) (b : Nat) (w : World) (ha : w.cell? a = some (.pointer (some ⟨b, 0, none⟩))) (hx : w.cell? ⟨b, 7, none⟩ = some (.int .i64 x)) :
    Calls Try.prog 42 #[.pointer (some a)] w fun e w' => e = .returned (.int .i64 x) ∧ w = w' := by
  go_enter Try.func42, Try.ntmps42
  go_wp2
  go_ret
  exact ⟨rfl, rfl⟩
theorem elic_total (x : Int) (a : Addr) (b room : Nat) (w : World) (ha : w.cell? a = some (.pointer (some ⟨b, 0, none⟩))) (h0 : w.cell? ⟨b, 0, none⟩ = some (.int .i64 room)) (h1 : 1 ≤ room) (hx : w.cell? ⟨b, 7, none⟩ = some (.int .i64 x)) :
    Calls Try.prog 40 #[.pointer (some ⟨b, 0, none⟩), .func (.func 42) #[] #[.pointer (some a)]] w fun e w' => e = .returned (.int .i64 x) ∧ w = w' := by
  go_enter Try.func40, Try.ntmps40
  go_wp2_with (first | (go_at_call 33; refine (none_no b room _ h0 h1).mono ?_; rintro e1 w1 ⟨rfl, rfl⟩) | (go_at_call 42; refine (elic_lit x a b _ ha hx).mono ?_; rintro e1 w1 ⟨rfl, rfl⟩))
  go_ret
  exact ⟨rfl, rfl⟩
set_option maxHeartbeats 1000000 in
theorem elic_any (b rb room : Nat) (last : Int) (ps : List Pk) (w : World) (hL : IsLog w b rb room last ps) :
    Calls Try.prog 19 #[.pointer (some ⟨b, 0, none⟩)] w fun e w' => e = .returned (.int .i64 (elicOf ps)) ∧ Below w.heap.size w w' := by
  obtain ⟨m, fr, ring, q, hC, hR, hG, hp⟩ := hL
  have hr1 := hC.r1
  have hC1 := hC.alloc (.cells #[.pointer (some ⟨b, 0, none⟩)] 23)
  have HS := hide (elic_total _ ⟨w.heap.size, 0, none⟩ b room _ ((Blk.new w 23 #[.pointer (some ⟨b, 0, none⟩)]).cell 0) (hC1.cell 0) hr1 (hC1.cell 7))
  clear hp
  go_enter Try.func19, Try.ntmps19
  go_wp2_with (first | (go_at_call 40; refine HS.out.mono ?_; rintro e1 w1 ⟨rfl, rfl⟩))
  go_ret
  exact ⟨rfl, (Below.refl _ _).alloc (Nat.le_refl _) _⟩

/-- What New leaves. -/
def NewPost (w : World) (room : Nat) (e : Ending) (w' : World) : Prop :=
  ∃ b rb, e = .returned (.tuple #[.pointer (some ⟨b, 0, none⟩), .int .i64 0]) ∧ IsLog w' b rb room (-1) [] ∧ w.heap.size ≤ b ∧ w.heap.size ≤ rb ∧ Below w.heap.size w w'

set_option maxHeartbeats 1000000 in
theorem new_ok (room : Nat) (w : World) (h1 : 1 ≤ room) (h2 : room ≤ 256) :
    Calls Try.prog 9 #[.int .i64 room] w (NewPost w room) := by
  obtain ⟨i0, hi, hz0, hz1, hz2⟩ := info_parts slot_info
  have hmk := fun W => make_rows (P := Try.prog) 60 65 i0 _ 7 40 Try.underlying60 hi hz0 hz1 hz2 (2 * room) (by omega) (by omega) W
  rw [show ((2 * room : Nat) : Int) = 2 * (room : Int) by omega] at hmk
  clear hi hz0 hz1 hz2
  go_enter Try.func9, Try.ntmps9
  go_wp2
  go_ret2
  refine ⟨w.heap.size + 1, w.heap.size, rfl, ⟨2 * room, 0, List.replicate (2 * room) zeroSl, [], ⟨2 * room, [], ?_, ?_, rfl, h1, h2⟩, ⟨by simp, by simp, by omega, by simp⟩, ⟨by simp, by simp, by simp, by simp, by simp [liveOf], by omega⟩, rfl⟩, by omega, Nat.le_refl _, ((Below.refl _ _).alloc (Nat.le_refl _) _).alloc (by simp) _⟩
  · have := Blk.new (w.alloc (.cells (madeCells (Value.agg #[.int .i64 0, .int .i64 0, .int .i64 0, .bool false, .bool false, .bool false, .bool false]).cells (2 * room * 7)) 65)) 62 #[.int .i64 room, .int .i64 (-1), .slice (some ⟨w.heap.size, 0, none⟩) (2 * room) (2 * room), .int .i64 0, .int .i64 0, .int .i64 0, .int .i64 0, .int .i64 0]
    rw [World.size_alloc] at this
    exact this
  · rw [List.append_nil, ← made_slots]
    exact (Blk.new _ _ _).alloc _

set_option maxHeartbeats 1000000 in
theorem new_no (room : Int) (w : World) (h : room < 1 ∨ 256 < room) :
    Calls Try.prog 9 #[.int .i64 room] w fun e w' => e = .returned (.tuple #[.pointer none, .int .i64 2]) ∧ w = w' := by
  by_cases h1 : room < 1
  · go_enter Try.func9, Try.ntmps9
    go_wp2
    go_ret2
    exact ⟨rfl, rfl⟩
  · have h2 : 256 < room := by omega
    have h3 : 1 ≤ room := by omega
    clear h
    go_enter Try.func9, Try.ntmps9
    go_wp2
    go_ret2
    exact ⟨rfl, rfl⟩
end Go.Proofs.Ytcigkggdcogokaa
