/-
  The packets' log: walks of Get, Oldest, Clear, Last, of the totals, of New.
-/
import Derived.Test.YtcigkggdcogokaaSentW5
import Derived.Laws.ResultCell
namespace Go.Proofs.Ytcigkggdcogokaa
open Go.RowKit

theorem slotAt_of {q : List Sl} {n : Int} {p : Pk} (hs : q.Pairwise fun a b => a.1.num < b.1.num) (h : (liveOf q).find? (fun p => p.num == n) = some p) : q[firstAt n q]? = some (p, true) ∧ p.num = n := by
  rw [find_at n q hs] at h
  split at h
  · rename_i s e
    split at h
    · rename_i h2
      have : s.1 = p := by simpa using h
      refine ⟨?_, by rw [← this]; exact h2.1⟩
      rw [e, ← this, ← h2.2]
    · cases h
  · cases h
theorem noSlot_of {q : List Sl} {n : Int} (hs : q.Pairwise fun a b => a.1.num < b.1.num) (h : (liveOf q).find? (fun p => p.num == n) = none) : NoSlot n q := by
  intro s e
  rw [find_at n q hs, e] at h
  simp only at h
  split at h
  · cases h
  · rename_i h2
    by_cases hn : s.1.num = n
    · right; simpa [hn] using h2
    · left; exact hn

set_option maxHeartbeats 1000000 in
theorem get_is (b rb room : Nat) (last n : Int) (p : Pk) (ps : List Pk) (w : World) (hL : IsLog w b rb room last ps) (h : ps.find? (fun p => p.num == n) = some p) :
    Calls Try.prog 17 #[.pointer (some ⟨b, 0, none⟩), .int .i64 n] w fun e w' => e = .returned (.tuple #[.agg #[.int .i64 p.num, .int .i64 p.time, .int .i64 p.size, .bool p.el, .bool p.fl, .bool p.ect], .bool true]) ∧ Below w.heap.size w w' := by
  obtain ⟨m, fr, ring, q, hC, hR, hG, hp⟩ := hL
  rw [hp] at h
  obtain ⟨hq, hn⟩ := slotAt_of hG.sorted h
  have hi : firstAt n q < q.length := (List.getElem?_eq_some_iff.1 hq).1
  have hat := hR.at_ _ hi
  rw [hq] at hat
  have hb := hC.blk.lt
  have hrb := hC.rng.lt
  have HS := hide (slot_is n p (hC.alloc (.cells #[.int .i64 0, .int .i64 0, .int .i64 0, .bool false, .bool false, .bool false] 30)) hR hG.sorted hq hn)
  have HP := hide hp
  have HN := hide hn
  have HQ := hide hq
  have HH := hide h
  clear hp hn hq h
  go_enter Try.func17, Try.ntmps17
  go_wp2_with (first | (go_at_call 38; refine HS.out.mono ?_; rintro e1 w1 ⟨rfl, hb1⟩; have hC1 := (hC.alloc (.cells #[.int .i64 0, .int .i64 0, .int .i64 0, .bool false, .bool false, .bool false] 30)).below hb1; obtain ⟨z0, z1, z2, z3, z4, z5, z6⟩ := hC1.slot hat; simp only at z0 z1 z2 z3 z4 z5; obtain ⟨hc1, hf1⟩ := bcell hb1; have hsz := hb1.size; simp only [World.size_alloc] at hsz))
  refine bodyPost_ret (v := .tuple #[.agg #[.int .i64 p.num, .int .i64 p.time, .int .i64 p.size, .bool p.el, .bool p.fl, .bool p.ect], .bool true]) (by simp [results, Try.results17, go_sem, hc1]) rfl ⟨rfl, ?_⟩
  refine Only.of_nil ?_
  repeat (first | with_reducible refine Only.setCell ?_ (.inr (Nat.le_refl _)) _ | with_reducible refine Only.drewN ?_ _)
  exact Only.trans (S' := []) ((Only.refl [] w).alloc _) (only_of_below hb1) (by simp)

set_option maxHeartbeats 1000000 in
theorem get_none (b rb room : Nat) (last n : Int) (ps : List Pk) (w : World) (hL : IsLog w b rb room last ps) (h : ps.find? (fun p => p.num == n) = none) :
    Calls Try.prog 17 #[.pointer (some ⟨b, 0, none⟩), .int .i64 n] w fun e w' => e = .returned (.tuple #[.agg #[.int .i64 0, .int .i64 0, .int .i64 0, .bool false, .bool false, .bool false], .bool false]) ∧ Below w.heap.size w w' := by
  obtain ⟨m, fr, ring, q, hC, hR, hG, hp⟩ := hL
  rw [hp] at h
  have hb := hC.blk.lt
  have hrb := hC.rng.lt
  have HS := hide (slot_none n (hC.alloc (.cells #[.int .i64 0, .int .i64 0, .int .i64 0, .bool false, .bool false, .bool false] 30)) hR hG.sorted (noSlot_of hG.sorted h))
  have HP := hide hp
  have HH := hide h
  clear hp h
  go_enter Try.func17, Try.ntmps17
  go_wp2_with (first | (go_at_call 38; refine HS.out.mono ?_; rintro e1 w1 ⟨rfl, hb1⟩; obtain ⟨hc1, hf1⟩ := bcell hb1; have hsz := hb1.size; simp only [World.size_alloc] at hsz))
  refine bodyPost_ret (v := .tuple #[.agg #[.int .i64 0, .int .i64 0, .int .i64 0, .bool false, .bool false, .bool false], .bool false]) (by simp [results, Try.results17, go_sem, hc1]) rfl ⟨rfl, ?_⟩
  refine Only.of_nil ?_
  repeat (first | with_reducible refine Only.setCell ?_ (.inr (Nat.le_refl _)) _ | with_reducible refine Only.drewN ?_ _)
  exact Only.trans (S' := []) ((Only.refl [] w).alloc _) (only_of_below hb1) (by simp)

/-- A packet as a value. -/
theorem oldest_head {q : List Sl} {room : Nat} {last : Int} {s : Sl} (h : Good room last (s :: q)) : liveOf (s :: q) = s.1 :: liveOf q := by
  rw [liveOf_cons, if_pos (h.head s rfl)]

set_option maxHeartbeats 1000000 in
theorem oldest_is (b rb room : Nat) (last : Int) (p : Pk) (ps : List Pk) (w : World) (hL : IsLog w b rb room last (p :: ps)) :
    Calls Try.prog 32 #[.pointer (some ⟨b, 0, none⟩)] w fun e w' => e = .returned (.tuple #[.agg #[.int .i64 p.num, .int .i64 p.time, .int .i64 p.size, .bool p.el, .bool p.fl, .bool p.ect], .bool true]) ∧ Below w.heap.size w w' := by
  obtain ⟨m, fr, ring, q, hC, hR, hG, hp⟩ := hL
  cases q with
  | nil => simp [liveOf] at hp
  | cons s q =>
    rw [oldest_head hG] at hp
    obtain ⟨h1, h2⟩ := List.cons.inj hp
    subst h1
    have hat := hR.at_ 0 (by simp)
    simp only [Nat.add_zero, List.getElem?_cons_zero] at hat
    have hb := hC.blk.lt
    have hrb := hC.rng.lt
    have hr1 := hC.r1
    have hr2 := hC.r2
    have hm2 := hC.m2
    have hm3 : m ≤ 512 := by omega
    have hm4 : 1 ≤ m := by omega
    have hfm := hR.frm
    have HM := hide hm2
    have c0 : w.cell? ⟨b, 0, none⟩ = some (.int .i64 room) := hC.cell 0
    have c2 : w.cell? ⟨b, 2, none⟩ = some (.slice (some ⟨rb, 0, none⟩) m hC.cap) := hC.cell 2
    have c3 : w.cell? ⟨b, 3, none⟩ = some (.int .i64 fr) := hC.cell 3
    have c4 : w.cell? ⟨b, 4, none⟩ = some (.int .i64 ((q.length + 1 : Nat) : Int)) := hC.cell 4
    obtain ⟨z0, z1, z2, z3, z4, z5, z6⟩ := hC.slot hat
    have e4 : (((q.length + 1 : Nat) : Int) == 0) = false := by rw [beq_eq_false_iff_ne]; omega
    have e5 : ((q.length : Int) + 1 == 0) = false := by rw [beq_eq_false_iff_ne]; omega
    have hA := fun (c : Nat) (W : World) (g2 : W.cell? ⟨b, 2, none⟩ = some (.slice (some ⟨rb, 0, none⟩) m c)) (g3 : W.cell? ⟨b, 3, none⟩ = some (.int .i64 fr)) => at_any b rb m fr 0 W g2 g3 (by omega) (by omega) (by omega) (by omega)
    simp only [Nat.add_zero, Nat.mod_eq_of_lt hfm, Int.natCast_zero] at hA
    rw [Nat.mod_eq_of_lt hfm] at z0 z1 z2 z3 z4 z5 z6
    have HA := hide hA
    have HP := hide hp
    have HH := hide h2
    have HT := hide hat
    clear hA hm2 hp h2 hat
    go_enter Try.func32, Try.ntmps32
    go_wp2_with (first | (go_at_call 33; refine (none_no b room _ ((hC.alloc _).cell 0) hr1).mono ?_; rintro e1 w1 ⟨rfl, rfl⟩) | (go_at_call 36; refine (HA.out _ _ ((hC.alloc _).cell 2) ((hC.alloc _).cell 3)).mono ?_; rintro e2 w2 ⟨rfl, nq, rfl⟩))
    refine bodyPost_ret (v := .tuple #[.agg #[.int .i64 s.1.num, .int .i64 s.1.time, .int .i64 s.1.size, .bool s.1.el, .bool s.1.fl, .bool s.1.ect], .bool true]) (by simp [results, Try.results32, go_sem]) rfl ⟨rfl, ?_⟩
    refine Only.of_nil ?_
    repeat (first | with_reducible refine Only.setCell ?_ (.inr (Nat.le_refl _)) _ | with_reducible refine Only.drewN ?_ _)
    exact (Only.refl [] w).alloc _

set_option maxHeartbeats 1000000 in
theorem oldest_none (b rb room : Nat) (last : Int) (w : World) (hL : IsLog w b rb room last []) :
    Calls Try.prog 32 #[.pointer (some ⟨b, 0, none⟩)] w fun e w' => e = .returned (.tuple #[.agg #[.int .i64 0, .int .i64 0, .int .i64 0, .bool false, .bool false, .bool false], .bool false]) ∧ Below w.heap.size w w' := by
  obtain ⟨m, fr, ring, q, hC, hR, hG, hp⟩ := hL
  cases q with
  | cons s q => rw [oldest_head hG] at hp; cases hp
  | nil =>
    have hb := hC.blk.lt
    have hr1 := hC.r1
    have c0 : w.cell? ⟨b, 0, none⟩ = some (.int .i64 room) := hC.cell 0
    have c4 : w.cell? ⟨b, 4, none⟩ = some (.int .i64 0) := hC.cell 4
    clear hp
    go_enter Try.func32, Try.ntmps32
    go_wp2_with (first | (go_at_call 33; refine (none_no b room _ ((hC.alloc _).cell 0) hr1).mono ?_; rintro e1 w1 ⟨rfl, rfl⟩))
    refine bodyPost_ret (v := .tuple #[.agg #[.int .i64 0, .int .i64 0, .int .i64 0, .bool false, .bool false, .bool false], .bool false]) (by simp [results, Try.results32, go_sem]) rfl ⟨rfl, ?_⟩
    refine Only.of_nil ?_
    repeat (first | with_reducible refine Only.setCell ?_ (.inr (Nat.le_refl _)) _ | with_reducible refine Only.drewN ?_ _)
    exact (Only.refl [] w).alloc _
end Go.Proofs.Ytcigkggdcogokaa
