/-
  The packets' log: a log as its callers see it; Put, behind 'pack'.
-/
import Derived.Test.YtcigkggdcogokaaSentW3
import Derived.Deep.RegionHeld3
namespace Go.Proofs.Ytcigkggdcogokaa
open Go.RowKit

/-- A log of packets ps, as its callers see it: its block b, its ring's block rb. -/
def IsLog (w : World) (b rb room : Nat) (last : Int) (ps : List Pk) : Prop :=
  ∃ (m fr : Nat) (ring q : List Sl), LogC w b rb m room last fr q.length ps.length (flightOf ps) (elicOf ps) ring ∧ Ring m fr ring q ∧ Good room last q ∧ ps = liveOf q

theorem flight_bounds : ∀ (ps : List Pk), (∀ p ∈ ps, p.may) → 0 ≤ flightOf ps ∧ flightOf ps ≤ 65535 * ps.length
  | [], _ => by simp [flightOf]
  | p :: ps, h => by
    obtain ⟨h1, h2⟩ := flight_bounds ps (fun x hx => h x (by simp [hx]))
    obtain ⟨_, _, _, _, h3, h4⟩ := h p (by simp)
    simp only [flightOf, List.length_cons]
    split <;> omega
theorem elic_bounds : ∀ (ps : List Pk), 0 ≤ elicOf ps ∧ elicOf ps ≤ ps.length
  | [] => by simp [elicOf]
  | p :: ps => by
    obtain ⟨h1, h2⟩ := elic_bounds ps
    simp only [elicOf, List.length_cons]
    split <;> omega
theorem live_may {q : List Sl} (h : ∀ s ∈ q, s.1.may) : ∀ p ∈ liveOf q, p.may := by
  intro p hp
  obtain ⟨s, hs, rfl⟩ := List.mem_map.1 hp
  exact h s (List.mem_filter.1 hs).1

theorem live_push (q : List Sl) (p : Pk) : liveOf (q ++ [(p, true)]) = liveOf q ++ [p] := by simp [liveOf]
theorem flight_push (q : List Pk) (p : Pk) : flightOf (q ++ [p]) = totF p.fl (flightOf q) p.size := by
  rw [flightOf_append]; unfold totF; simp only [flightOf]; split <;> omega
theorem elic_push (q : List Pk) (p : Pk) : elicOf (q ++ [p]) = totE p.fl p.el (elicOf q) 1 := by
  rw [elicOf_append]; unfold totE; cases h1 : p.fl <;> cases h2 : p.el <;> simp [elicOf, h1, h2]
theorem good_push {room : Nat} {last : Int} {q : List Sl} {p : Pk} (h : Good room last q) (hp : p.may) (hl : last < p.num) (hr : (liveOf q).length < room) : Good room p.num (q ++ [(p, true)]) := by
  refine ⟨?_, ?_, ?_, ?_, ?_, ?_⟩
  · rw [List.pairwise_append]
    refine ⟨h.sorted, by simp, fun a ha b hb => ?_⟩
    have := h.le a ha
    simp at hb
    subst hb
    simp only
    omega
  · intro s hs
    rcases List.mem_append.1 hs with h1 | h1
    · exact h.may s h1
    · simp at h1; subst h1; exact hp
  · intro s hs
    rcases List.mem_append.1 hs with h1 | h1
    · have := h.le s h1; omega
    · simp at h1; subst h1; simp
  · intro s hs
    cases q with
    | nil => simp at hs; subst hs; rfl
    | cons x q => exact h.head s (by simpa using hs)
  · rw [live_push]; simp; omega
  · obtain ⟨h1, h2, _⟩ := hp
    omega

set_option maxHeartbeats 1000000 in
theorem put_no (b rb room : Nat) (last n t s : Int) (e f c : Bool) (ps : List Pk) (w : World) (hL : IsLog w b rb room last ps) (h : ¬ (Pk.mk n t s e f c).may) :
    Calls Try.prog 11 #[.pointer (some ⟨b, 0, none⟩), .agg #[.int .i64 n, .int .i64 t, .int .i64 s, .bool e, .bool f, .bool c]] w fun e' w' => e' = .returned (.int .i64 2) ∧ Below w.heap.size w w' := by
  obtain ⟨m, fr, ring, q, hC, hR, hG, hp⟩ := hL
  have hr1 := hC.r1
  have hb := hC.blk.lt
  have h0 : w.cell? ⟨b, 0, none⟩ = some (.int .i64 room) := hC.cell 0
  have HP := hide hp
  have HN := hide h
  clear hp h
  go_enter Try.func11, Try.ntmps11
  go_wp2_with (first | (go_at_call 33; refine (none_no b room _ ((hC.alloc _).cell 0) hr1).mono ?_; rintro e1 w1 ⟨rfl, rfl⟩) | (go_at_call 34; refine (may_no _ _ _ _ _ _ _ HN.out).mono ?_; rintro e1 w1 ⟨rfl, hb1⟩))
  go_ret
  exact ⟨rfl, ((Below.refl _ _).alloc (Nat.le_refl _) _).trans (hb1.mono (by simp))⟩

set_option maxHeartbeats 1000000 in
theorem put_low (b rb room : Nat) (last n t s : Int) (e f c : Bool) (ps : List Pk) (w : World) (hL : IsLog w b rb room last ps) (h : (Pk.mk n t s e f c).may) (hn : n ≤ last) :
    Calls Try.prog 11 #[.pointer (some ⟨b, 0, none⟩), .agg #[.int .i64 n, .int .i64 t, .int .i64 s, .bool e, .bool f, .bool c]] w fun e' w' => e' = .returned (.int .i64 60) ∧ Below w.heap.size w w' := by
  obtain ⟨m, fr, ring, q, hC, hR, hG, hp⟩ := hL
  have hr1 := hC.r1
  have hb := hC.blk.lt
  have h0 : w.cell? ⟨b, 0, none⟩ = some (.int .i64 room) := hC.cell 0
  have h1 : w.cell? ⟨b, 1, none⟩ = some (.int .i64 last) := hC.cell 1
  have HP := hide hp
  have HN := hide h
  clear hp h
  go_enter Try.func11, Try.ntmps11
  go_wp2_with (first | (go_at_call 33; refine (none_no b room _ ((hC.alloc _).cell 0) hr1).mono ?_; rintro e1 w1 ⟨rfl, rfl⟩) | (go_at_call 34; refine (may_yes _ _ _ _ _ _ _ HN.out).mono ?_; rintro e1 w1 ⟨rfl, hb1⟩; obtain ⟨hc1, hf1⟩ := bcell hb1))
  go_quiet (fail)
  go_wp2
  go_ret
  exact ⟨rfl, below_drewN (((Below.refl _ _).alloc (Nat.le_refl _) _).trans (hb1.mono (by simp))) _⟩

set_option maxHeartbeats 1000000 in
theorem put_full (b rb room : Nat) (last n t s : Int) (e f c : Bool) (ps : List Pk) (w : World) (hL : IsLog w b rb room last ps) (h : (Pk.mk n t s e f c).may) (hn : last < n) (hfull : ps.length = room) :
    Calls Try.prog 11 #[.pointer (some ⟨b, 0, none⟩), .agg #[.int .i64 n, .int .i64 t, .int .i64 s, .bool e, .bool f, .bool c]] w fun e' w' => e' = .returned (.int .i64 5) ∧ Below w.heap.size w w' := by
  obtain ⟨m, fr, ring, q, hC, hR, hG, hp⟩ := hL
  have hr1 := hC.r1
  have hb := hC.blk.lt
  have h0 : w.cell? ⟨b, 0, none⟩ = some (.int .i64 room) := hC.cell 0
  have h1 : w.cell? ⟨b, 1, none⟩ = some (.int .i64 last) := hC.cell 1
  have h5 : w.cell? ⟨b, 5, none⟩ = some (.int .i64 ps.length) := hC.cell 5
  rw [hfull] at h5
  have HP := hide hp
  have HN := hide h
  have HF := hide hfull
  clear hp h hfull
  go_enter Try.func11, Try.ntmps11
  go_wp2_with (first | (go_at_call 33; refine (none_no b room _ ((hC.alloc _).cell 0) hr1).mono ?_; rintro e1 w1 ⟨rfl, rfl⟩) | (go_at_call 34; refine (may_yes _ _ _ _ _ _ _ HN.out).mono ?_; rintro e1 w1 ⟨rfl, hb1⟩; obtain ⟨hc1, hf1⟩ := bcell hb1))
  go_quiet (fail)
  go_wp2
  go_quiet (fail)
  go_wp2
  go_ret
  exact ⟨rfl, below_drewN (below_drewN (((Below.refl _ _).alloc (Nat.le_refl _) _).trans (hb1.mono (by simp))) _) _⟩
end Go.Proofs.Ytcigkggdcogokaa
