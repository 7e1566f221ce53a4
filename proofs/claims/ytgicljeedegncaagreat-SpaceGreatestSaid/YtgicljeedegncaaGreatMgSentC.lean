/-
  The log of packets: Oldest, Clear, Drop, All, Copy: 5 texts in one (SentW6, SentW7, SentDrop, SentEach, SentCopy).
-/
import Derived.Test.YtgicljeedegncaaGreatMgSentB
import Derived.Laws.ResultCell
import Derived.Test.YtgicljeedegncaaGreatMgBase
import Derived.Deep.RegionLaw
namespace Go.Proofs.YtgicljeedegncaaGreat
open Go.RowKit

theorem slotAt_of {q : List Sl} {n : Int} {p : Pk} (hs : q.Pairwise fun a b => a.1.num < b.1.num) (h : (liveOf q).find? (fun p => p.num == n) = some p) : q[firstAt n q]? = some (p, true) ∧ p.num = n := by
  rw [find_at n q hs] at h
  split at h
  · rename_i s e
    split at h
    · rename_i h2
      have : s.1 = p := by simpa using h
      refine ⟨?_, by rw [← this]; exact h2.1⟩
      rw [e, ← this, ← h2.2]
    · cases h
  · cases h
theorem noSlot_of {q : List Sl} {n : Int} (hs : q.Pairwise fun a b => a.1.num < b.1.num) (h : (liveOf q).find? (fun p => p.num == n) = none) : NoSlot n q := by
  intro s e
  rw [find_at n q hs, e] at h
  simp only at h
  split at h
  · cases h
  · rename_i h2
    by_cases hn : s.1.num = n
    · right; simpa [hn] using h2
    · left; exact hn

/-- A packet as a value. -/
theorem oldest_head {q : List Sl} {room : Nat} {last : Int} {s : Sl} (h : Good room last (s :: q)) : liveOf (s :: q) = s.1 :: liveOf q := by
  rw [liveOf_cons, if_pos (h.head s rfl)]

set_option maxHeartbeats 1000000 in
theorem oldest_is (b rb room : Nat) (last : Int) (p : Pk) (ps : List Pk) (w : World) (hL : IsLog w b rb room last (p :: ps)) :
    Calls Tryz.prog 105 #[.pointer (some ⟨b, 0, none⟩)] w fun e w' => e = .returned (.tuple #[.agg #[.int .i64 p.num, .int .i64 p.time, .int .i64 p.size, .bool p.el, .bool p.fl, .bool p.ect], .bool true]) ∧ Below w.heap.size w w' := by
  obtain ⟨m, fr, ring, q, hC, hR, hG, hp⟩ := hL
  cases q with
  | nil => simp [liveOf] at hp
  | cons s q =>
    rw [oldest_head hG] at hp
    obtain ⟨h1, h2⟩ := List.cons.inj hp
    subst h1
    have hat := hR.at_ 0 (by simp)
    simp only [Nat.add_zero, List.getElem?_cons_zero] at hat
    have hb := hC.blk.lt
    have hrb := hC.rng.lt
    have hr1 := hC.r1
    have hr2 := hC.r2
    have hm2 := hC.m2
    have hm3 : m ≤ 512 := by omega
    have hm4 : 1 ≤ m := by omega
    have hfm := hR.frm
    have HM := hide hm2
    have c0 : w.cell? ⟨b, 0, none⟩ = some (.int .i64 room) := hC.cell 0
    have c2 : w.cell? ⟨b, 2, none⟩ = some (.slice (some ⟨rb, 0, none⟩) m hC.cap) := hC.cell 2
    have c3 : w.cell? ⟨b, 3, none⟩ = some (.int .i64 fr) := hC.cell 3
    have c4 : w.cell? ⟨b, 4, none⟩ = some (.int .i64 ((q.length + 1 : Nat) : Int)) := hC.cell 4
    obtain ⟨z0, z1, z2, z3, z4, z5, z6⟩ := hC.slot hat
    have e4 : (((q.length + 1 : Nat) : Int) == 0) = false := by rw [beq_eq_false_iff_ne]; omega
    have e5 : ((q.length : Int) + 1 == 0) = false := by rw [beq_eq_false_iff_ne]; omega
    have hA := fun (c : Nat) (W : World) (g2 : W.cell? ⟨b, 2, none⟩ = some (.slice (some ⟨rb, 0, none⟩) m c)) (g3 : W.cell? ⟨b, 3, none⟩ = some (.int .i64 fr)) => at_any b rb m fr 0 W g2 g3 (by omega) (by omega) (by omega) (by omega)
    simp only [Nat.add_zero, Nat.mod_eq_of_lt hfm, Int.natCast_zero] at hA
    rw [Nat.mod_eq_of_lt hfm] at z0 z1 z2 z3 z4 z5 z6
    have HA := hide hA
    have HP := hide hp
    have HH := hide h2
    have HT := hide hat
    clear hA hm2 hp h2 hat
    go_enter Tryz.func105, Tryz.ntmps105
    go_wp2_with (first | (go_at_call 99; refine (none_no b room _ ((hC.alloc _).cell 0) hr1).mono ?_; rintro e1 w1 ⟨rfl, rfl⟩) | (go_at_call 110; refine (HA.out _ _ ((hC.alloc _).cell 2) ((hC.alloc _).cell 3)).mono ?_; rintro e2 w2 ⟨rfl, nq, rfl⟩))
    refine bodyPost_ret (v := .tuple #[.agg #[.int .i64 s.1.num, .int .i64 s.1.time, .int .i64 s.1.size, .bool s.1.el, .bool s.1.fl, .bool s.1.ect], .bool true]) (by simp [results, Tryz.results105, go_sem]) rfl ⟨rfl, ?_⟩
    refine Only.of_nil ?_
    repeat (first | with_reducible refine Only.setCell ?_ (.inr (Nat.le_refl _)) _ | with_reducible refine Only.drewN ?_ _)
    exact (Only.refl [] w).alloc _

set_option maxHeartbeats 1000000 in
theorem oldest_none (b rb room : Nat) (last : Int) (w : World) (hL : IsLog w b rb room last []) :
    Calls Tryz.prog 105 #[.pointer (some ⟨b, 0, none⟩)] w fun e w' => e = .returned (.tuple #[.agg #[.int .i64 0, .int .i64 0, .int .i64 0, .bool false, .bool false, .bool false], .bool false]) ∧ Below w.heap.size w w' := by
  obtain ⟨m, fr, ring, q, hC, hR, hG, hp⟩ := hL
  cases q with
  | cons s q => rw [oldest_head hG] at hp; cases hp
  | nil =>
    have hb := hC.blk.lt
    have hr1 := hC.r1
    have c0 : w.cell? ⟨b, 0, none⟩ = some (.int .i64 room) := hC.cell 0
    have c4 : w.cell? ⟨b, 4, none⟩ = some (.int .i64 0) := hC.cell 4
    clear hp
    go_enter Tryz.func105, Tryz.ntmps105
    go_wp2_with (first | (go_at_call 99; refine (none_no b room _ ((hC.alloc _).cell 0) hr1).mono ?_; rintro e1 w1 ⟨rfl, rfl⟩))
    refine bodyPost_ret (v := .tuple #[.agg #[.int .i64 0, .int .i64 0, .int .i64 0, .bool false, .bool false, .bool false], .bool false]) (by simp [results, Tryz.results105, go_sem]) rfl ⟨rfl, ?_⟩
    refine Only.of_nil ?_
    repeat (first | with_reducible refine Only.setCell ?_ (.inr (Nat.le_refl _)) _ | with_reducible refine Only.drewN ?_ _)
    exact (Only.refl [] w).alloc _
end Go.Proofs.YtgicljeedegncaaGreat

namespace Go.Proofs.YtgicljeedegncaaGreat
open Go.RowKit

/-- What Clear leaves. -/
def ClearPost (w : World) (b rb room : Nat) (last : Int) (e : Ending) (w' : World) : Prop := e = .returned (.tuple #[]) ∧ IsLog w' b rb room last [] ∧ Only [b] w w'

set_option maxHeartbeats 1000000 in
theorem clear_any (b rb room : Nat) (last : Int) (ps : List Pk) (w : World) (hL : IsLog w b rb room last ps) :
    Calls Tryz.prog 68 #[.pointer (some ⟨b, 0, none⟩)] w (ClearPost w b rb room last) := by
  obtain ⟨m, fr, ring, q, hC, hR, hG, hp⟩ := hL
  have hb := hC.blk.lt
  have hr1 := hC.r1
  have hfb := hC.blk.frozen
  have hm2 := hC.m2
  have c3 : w.cell? ⟨b, 3, none⟩ = some (.int .i64 fr) := hC.cell 3
  have c4 : w.cell? ⟨b, 4, none⟩ = some (.int .i64 q.length) := hC.cell 4
  have c5 : w.cell? ⟨b, 5, none⟩ = some (.int .i64 ps.length) := hC.cell 5
  have c6 : w.cell? ⟨b, 6, none⟩ = some (.int .i64 (flightOf ps)) := hC.cell 6
  have c7 : w.cell? ⟨b, 7, none⟩ = some (.int .i64 (elicOf ps)) := hC.cell 7
  have HP := hide hp
  have HM := hide hm2
  clear hp hm2
  go_enter Tryz.func68, Tryz.ntmps68
  go_wp2_with (first | (go_at_call 99; refine (none_no b room _ (hC.cell 0) hr1).mono ?_; rintro e1 w1 ⟨rfl, rfl⟩))
  go_end0
  refine ⟨rfl, ⟨m, 0, ring, [], ((((hC.setFrom (k := 0) rfl).setLong (k := 0) rfl).setMany (k := 0) rfl).setFlight 0).setElic 0, hR.none_ (by have := HM.out; omega), ⟨by simp, by simp, by simp, by simp, by simp [liveOf], hG.last⟩, rfl⟩, ?_⟩
  exact (((((Only.refl [b] w).setCell (.inl (by simp)) _).setCell (.inl (by simp)) _).setCell (.inl (by simp)) _).setCell (.inl (by simp)) _).setCell (.inl (by simp)) _

set_option maxHeartbeats 1000000 in
theorem last_any (b rb room : Nat) (last : Int) (ps : List Pk) (w : World) (hL : IsLog w b rb room last ps) :
    Calls Tryz.prog 56 #[.pointer (some ⟨b, 0, none⟩)] w fun e w' => e = .returned (.int .i64 last) ∧ w = w' := by
  obtain ⟨m, fr, ring, q, hC, hR, hG, hp⟩ := hL
  have hr1 := hC.r1
  have c1 : w.cell? ⟨b, 1, none⟩ = some (.int .i64 last) := hC.cell 1
  clear hp
  go_enter Tryz.func56, Tryz.ntmps56
  go_wp2_with (first | (go_at_call 99; refine (none_no b room _ (hC.cell 0) hr1).mono ?_; rintro e1 w1 ⟨rfl, rfl⟩))
  go_ret
  exact ⟨rfl, rfl⟩

theorem flight_lit (x : Int) (a : Addr) (b : Nat) (w : World) (ha : w.cell? a = some (.pointer (some ⟨b, 0, none⟩))) (hx : w.cell? ⟨b, 6, none⟩ = some (.int .i64 x)) :
    Calls Tryz.prog 119 #[.pointer (some a)] w fun e w' => e = .returned (.int .i64 x) ∧ w = w' := by
  go_enter Tryz.func119, Tryz.ntmps119
  go_wp2
  go_ret
  exact ⟨rfl, rfl⟩
theorem flight_total (x : Int) (a : Addr) (b room : Nat) (w : World) (ha : w.cell? a = some (.pointer (some ⟨b, 0, none⟩))) (h0 : w.cell? ⟨b, 0, none⟩ = some (.int .i64 room)) (h1 : 1 ≤ room) (hx : w.cell? ⟨b, 6, none⟩ = some (.int .i64 x)) :
    Calls Tryz.prog 118 #[.pointer (some ⟨b, 0, none⟩), .func (.func 119) #[] #[.pointer (some a)]] w fun e w' => e = .returned (.int .i64 x) ∧ w = w' := by
  go_enter Tryz.func118, Tryz.ntmps118
  go_wp2_with (first | (go_at_call 99; refine (none_no b room _ h0 h1).mono ?_; rintro e1 w1 ⟨rfl, rfl⟩) | (go_at_call 119; refine (flight_lit x a b _ ha hx).mono ?_; rintro e1 w1 ⟨rfl, rfl⟩))
  go_ret
  exact ⟨rfl, rfl⟩
set_option maxHeartbeats 1000000 in
theorem flight_any (b rb room : Nat) (last : Int) (ps : List Pk) (w : World) (hL : IsLog w b rb room last ps) :
    Calls Tryz.prog 65 #[.pointer (some ⟨b, 0, none⟩)] w fun e w' => e = .returned (.int .i64 (flightOf ps)) ∧ Below w.heap.size w w' := by
  obtain ⟨m, fr, ring, q, hC, hR, hG, hp⟩ := hL
  have hr1 := hC.r1
  have hC1 := hC.alloc (.cells #[.pointer (some ⟨b, 0, none⟩)] 75)
  have HS := hide (flight_total _ ⟨w.heap.size, 0, none⟩ b room _ ((Blk.new w 75 #[.pointer (some ⟨b, 0, none⟩)]).cell 0) (hC1.cell 0) hr1 (hC1.cell 6))
  clear hp
  go_enter Tryz.func65, Tryz.ntmps65
  go_wp2_with (first | (go_at_call 118; refine HS.out.mono ?_; rintro e1 w1 ⟨rfl, rfl⟩))
  go_ret
  exact ⟨rfl, (Below.refl _ _).alloc (Nat.le_refl _) _⟩

theorem elic_lit (x : Int) (a : Addr) (b : Nat) (w : World) (ha : w.cell? a = some (.pointer (some ⟨b, 0, none⟩))) (hx : w.cell? ⟨b, 7, none⟩ = some (.int .i64 x)) :
    Calls Tryz.prog 120 #[.pointer (some a)] w fun e w' => e = .returned (.int .i64 x) ∧ w = w' := by
  go_enter Tryz.func120, Tryz.ntmps120
  go_wp2
  go_ret
  exact ⟨rfl, rfl⟩
theorem elic_total (x : Int) (a : Addr) (b room : Nat) (w : World) (ha : w.cell? a = some (.pointer (some ⟨b, 0, none⟩))) (h0 : w.cell? ⟨b, 0, none⟩ = some (.int .i64 room)) (h1 : 1 ≤ room) (hx : w.cell? ⟨b, 7, none⟩ = some (.int .i64 x)) :
    Calls Tryz.prog 118 #[.pointer (some ⟨b, 0, none⟩), .func (.func 120) #[] #[.pointer (some a)]] w fun e w' => e = .returned (.int .i64 x) ∧ w = w' := by
  go_enter Tryz.func118, Tryz.ntmps118
  go_wp2_with (first | (go_at_call 99; refine (none_no b room _ h0 h1).mono ?_; rintro e1 w1 ⟨rfl, rfl⟩) | (go_at_call 120; refine (elic_lit x a b _ ha hx).mono ?_; rintro e1 w1 ⟨rfl, rfl⟩))
  go_ret
  exact ⟨rfl, rfl⟩
set_option maxHeartbeats 1000000 in
theorem elic_any (b rb room : Nat) (last : Int) (ps : List Pk) (w : World) (hL : IsLog w b rb room last ps) :
    Calls Tryz.prog 67 #[.pointer (some ⟨b, 0, none⟩)] w fun e w' => e = .returned (.int .i64 (elicOf ps)) ∧ Below w.heap.size w w' := by
  obtain ⟨m, fr, ring, q, hC, hR, hG, hp⟩ := hL
  have hr1 := hC.r1
  have hC1 := hC.alloc (.cells #[.pointer (some ⟨b, 0, none⟩)] 75)
  have HS := hide (elic_total _ ⟨w.heap.size, 0, none⟩ b room _ ((Blk.new w 75 #[.pointer (some ⟨b, 0, none⟩)]).cell 0) (hC1.cell 0) hr1 (hC1.cell 7))
  clear hp
  go_enter Tryz.func67, Tryz.ntmps67
  go_wp2_with (first | (go_at_call 118; refine HS.out.mono ?_; rintro e1 w1 ⟨rfl, rfl⟩))
  go_ret
  exact ⟨rfl, (Below.refl _ _).alloc (Nat.le_refl _) _⟩

/-- What New leaves. -/
def NewPost (w : World) (room : Nat) (e : Ending) (w' : World) : Prop :=
  ∃ b rb, e = .returned (.tuple #[.pointer (some ⟨b, 0, none⟩), .int .i64 0]) ∧ IsLog w' b rb room (-1) [] ∧ w.heap.size ≤ b ∧ w.heap.size ≤ rb ∧ Below w.heap.size w w'

set_option maxHeartbeats 1000000 in
theorem new_ok (room : Nat) (w : World) (h1 : 1 ≤ room) (h2 : room ≤ 256) :
    Calls Tryz.prog 43 #[.int .i64 room] w (NewPost w room) := by
  obtain ⟨i0, hi, hz0, hz1, hz2⟩ := info_parts slot_info
  have hmk := fun W => make_rows (P := Tryz.prog) 117 137 i0 _ 7 40 Tryz.underlying117 hi hz0 hz1 hz2 (2 * room) (by omega) (by omega) W
  rw [show ((2 * room : Nat) : Int) = 2 * (room : Int) by omega] at hmk
  clear hi hz0 hz1 hz2
  go_enter Tryz.func43, Tryz.ntmps43
  go_wp2
  go_ret2
  refine ⟨w.heap.size + 1, w.heap.size, rfl, ⟨2 * room, 0, List.replicate (2 * room) zeroSl, [], ⟨2 * room, [], ?_, ?_, rfl, h1, h2⟩, ⟨by simp, by simp, by omega, by simp⟩, ⟨by simp, by simp, by simp, by simp, by simp [liveOf], by omega⟩, rfl⟩, by omega, Nat.le_refl _, ((Below.refl _ _).alloc (Nat.le_refl _) _).alloc (by simp) _⟩
  · have := Blk.new (w.alloc (.cells (madeCells (Value.agg #[.int .i64 0, .int .i64 0, .int .i64 0, .bool false, .bool false, .bool false, .bool false]).cells (2 * room * 7)) 137)) 119 #[.int .i64 room, .int .i64 (-1), .slice (some ⟨w.heap.size, 0, none⟩) (2 * room) (2 * room), .int .i64 0, .int .i64 0, .int .i64 0, .int .i64 0, .int .i64 0]
    rw [World.size_alloc] at this
    exact this
  · rw [List.append_nil, ← made_slots]
    exact (Blk.new _ _ _).alloc _

set_option maxHeartbeats 1000000 in
theorem new_no (room : Int) (w : World) (h : room < 1 ∨ 256 < room) :
    Calls Tryz.prog 43 #[.int .i64 room] w fun e w' => e = .returned (.tuple #[.pointer none, .int .i64 2]) ∧ w = w' := by
  by_cases h1 : room < 1
  · go_enter Tryz.func43, Tryz.ntmps43
    go_wp2
    go_ret2
    exact ⟨rfl, rfl⟩
  · have h2 : 256 < room := by omega
    have h3 : 1 ≤ room := by omega
    clear h
    go_enter Tryz.func43, Tryz.ntmps43
    go_wp2
    go_ret2
    exact ⟨rfl, rfl⟩
end Go.Proofs.YtgicljeedegncaaGreat

namespace Go.Proofs.YtgicljeedegncaaGreat
open Go.RowKit

/-- What Drop leaves where the packet is there. -/
def DropPost (w : World) (b rb room : Nat) (last n : Int) (p : Pk) (ps : List Pk) (e : Ending) (w' : World) : Prop :=
  e = .returned (.tuple #[.agg #[.int .i64 p.num, .int .i64 p.time, .int .i64 p.size, .bool p.el, .bool p.fl, .bool p.ect], .bool true]) ∧ IsLog w' b rb room last (without n ps) ∧ Only [b, rb] w w'

set_option maxHeartbeats 1000000 in
theorem drop_none (b rb room : Nat) (last n : Int) (ps : List Pk) (w : World) (hL : IsLog w b rb room last ps) (h : ps.find? (fun p => p.num == n) = none) :
    Calls Tryz.prog 98 #[.pointer (some ⟨b, 0, none⟩), .int .i64 n] w fun e w' => e = .returned (.tuple #[.agg #[.int .i64 0, .int .i64 0, .int .i64 0, .bool false, .bool false, .bool false], .bool false]) ∧ Below w.heap.size w w' := by
  obtain ⟨m, fr, ring, q, hC, hR, hG, hp⟩ := hL
  rw [hp] at h
  have hb := hC.blk.lt
  have hrb := hC.rng.lt
  have HS := hide (slot_none n (hC.alloc (.cells #[.int .i64 0, .int .i64 0, .int .i64 0, .bool false, .bool false, .bool false] 40)) hR hG.sorted (noSlot_of hG.sorted h))
  have HP := hide hp
  have HH := hide h
  clear hp h
  go_enter Tryz.func98, Tryz.ntmps98
  go_wp2_with (first | (go_at_call 147; refine HS.out.mono ?_; rintro e1 w1 ⟨rfl, hb1⟩; obtain ⟨hc1, hf1⟩ := bcell hb1; have hsz := hb1.size; simp only [World.size_alloc] at hsz))
  refine bodyPost_ret (v := .tuple #[.agg #[.int .i64 0, .int .i64 0, .int .i64 0, .bool false, .bool false, .bool false], .bool false]) (by simp [results, Tryz.results98, go_sem, hc1]) rfl ⟨rfl, ?_⟩
  refine Only.of_nil ?_
  repeat (first | with_reducible refine Only.setCell ?_ (.inr (Nat.le_refl _)) _ | with_reducible refine Only.drewN ?_ _)
  exact Only.trans (S' := []) ((Only.refl [] w).alloc _) (only_of_below hb1) (by simp)

theorem LogC.setThere {w : World} {b rb m room : Nat} {last : Int} {fr long many : Nat} {fl el : Int} {ring : List Sl} (h : LogC w b rb m room last fr long many fl el ring) {k : Nat} {p : Pk} {x y : Bool} (hk : ring[k]? = some (p, x)) :
    LogC (w.setCell ⟨rb, k * 7 + 6, none⟩ (.bool y)) b rb m room last fr long many fl el (ring.set k (p, y)) := by
  have hl := flat_length slCells 7 slCells_length ring
  have hkl := (List.getElem?_eq_some_iff.1 hk).1
  refine ⟨_, h.rest, h.blk.far h.ne _, (h.rng.set _ _).eq ?_, h.m2, h.r1, h.r2⟩
  rw [List.setIfInBounds_toArray, List.set_append_left _ _ (by rw [hl]; omega), flat_set slCells 7 slCells_length ring k 6 (p, x) (p, y) _ (by omega) hk rfl]

theorem set_there {s : Sl} {q3 : List Sl} (hs : s.2 = false) : liveOf (s :: q3) = liveOf q3 := by rw [liveOf_cons, hs]; rfl

theorem drop_end {w : World} {b rb m room : Nat} {last n : Int} {fr2 i : Nat} {ring q q2 : List Sl} {ps : List Pk} {p : Pk} (hL : LogC w b rb m room last fr2 q2.length (without n ps).length (flightOf (without n ps)) (elicOf (without n ps)) ring) (hR : Ring m fr2 ring q2) (hG : Good room last q)
    (hq : q[i]? = some (p, true)) (hsf : q2 <:+ q.set i (p, false)) (hlv3 : liveOf q2 = liveOf (q.set i (p, false))) (hlv : liveOf (q.set i (p, false)) = without n ps) (hh : ∀ s, q2.head? = some s → s.2 = true) : IsLog w b rb room last (without n ps) :=
  ⟨m, fr2, ring, q2, hL, hR, good_after hG hq hsf hlv3 hh, by rw [hlv3, hlv]⟩

set_option maxHeartbeats 4000000 in
theorem drop_is (b rb room : Nat) (last n : Int) (p : Pk) (ps : List Pk) (w : World) (hL : IsLog w b rb room last ps) (h : ps.find? (fun p => p.num == n) = some p) :
    Calls Tryz.prog 98 #[.pointer (some ⟨b, 0, none⟩), .int .i64 n] w (DropPost w b rb room last n p ps) := by
  obtain ⟨m, fr, ring, q, hC, hR, hG, hp⟩ := hL
  rw [hp] at h
  obtain ⟨hq, hn⟩ := slotAt_of hG.sorted h
  have hi : firstAt n q < q.length := (List.getElem?_eq_some_iff.1 hq).1
  have hat := hR.at_ _ hi
  rw [hq] at hat
  have hb := hC.blk.lt
  have hrb := hC.rng.lt
  have hr1 := hC.r1
  have hr2 := hC.r2
  have hmp := hG.may _ (List.mem_of_getElem? hq)
  have hps : p ∈ ps := by rw [hp]; exact List.mem_of_find?_eq_some h
  have hpss : ps.Pairwise fun a b => a.num < b.num := by rw [hp]; exact live_sorted hG.sorted
  have hlen := length_without hpss hps hn
  have hfl := flight_without hpss hps hn
  have hel := elic_without hpss hps hn
  have hlv := without_at hG.sorted hq
  have HS := hide (slot_is n p (hC.alloc (.cells #[.int .i64 0, .int .i64 0, .int .i64 0, .bool false, .bool false, .bool false] 40)) hR hG.sorted hq hn)
  obtain ⟨i, hie⟩ : ∃ i, firstAt n q = i := ⟨_, rfl⟩
  rw [hie] at hq hi hat HS hlv
  rw [hn, ← hp] at hlv
  have hRS := hR.set hi (p, false)
  obtain ⟨k, hke⟩ : ∃ k, (fr + i) % m = k := ⟨_, rfl⟩
  rw [hke] at hat hRS HS
  have HP := hide hp
  have HN := hide hn
  have HQ := hide hq
  have HH := hide h
  have HA := hide hat
  have HI := hide hie
  have HK := hide hke
  have HLEN := hide hlen
  have HFL := hide hfl
  have HEL := hide hel
  have HLV := hide hlv
  have HM := hide hC.m2
  have HPS := hide hps
  clear hp hn hq h hie hke hlen hfl hel hlv hps hat
  obtain ⟨p1, p2, p3, p4, p5, p6⟩ := hmp
  obtain ⟨f1, f2⟩ := flight_bounds ps (by rw [HP.out]; exact live_may hG.may)
  obtain ⟨g1, g2⟩ := elic_bounds ps
  have hroom := hG.room
  rw [← HP.out] at hroom
  go_enter Tryz.func98, Tryz.ntmps98
  go_wp2_with (first | (go_at_call 147; refine HS.out.mono ?_; rintro e1 w1 ⟨rfl, hb1⟩; have hC1 := (hC.alloc (.cells #[.int .i64 0, .int .i64 0, .int .i64 0, .bool false, .bool false, .bool false] 40)).below hb1; obtain ⟨z0, z1, z2, z3, z4, z5, z6⟩ := hC1.slot HA.out; simp only at z0 z1 z2 z3 z4 z5 z6; have hsz := hb1.size; simp only [World.size_alloc] at hsz; have hfr1 := hC1.rng.frozen; have hbx := (only_of_below hb1 (S := [])).blk (Blk.new w _ _) (by simp)))
  rw [← HLEN.out] at hC1
  refine (less_any (hC1.setThere HA.out) p.num p.time p.size p.el p.fl p.ect (by have := HLEN.out; omega) f1 (by omega) g1 (by omega) p5 p6).mono ?_
  rintro e2 w2 ⟨rfl, hL2, hO2⟩
  rw [← HFL.out, ← HEL.out] at hL2
  have hbx2 : Blk w2 w.heap.size 40 _ := hO2.blk (hbx.far (by simp; omega) _) (by simp; omega)
  have hk2 : (ring.set k (p, false))[k]? = some (p, false) := List.getElem?_set_self (List.getElem?_eq_some_iff.1 HA.out).1
  obtain ⟨y0, y1, y2, y3, y4, y5, y6⟩ := hL2.slot hk2
  simp only at y0 y1 y2 y3 y4 y5 y6
  have x0 : w2.cell? ⟨w.heap.size, 0, none⟩ = some (.int .i64 0) := hbx2.cell 0
  have x1 : w2.cell? ⟨w.heap.size, 1, none⟩ = some (.int .i64 0) := hbx2.cell 1
  have x2 : w2.cell? ⟨w.heap.size, 2, none⟩ = some (.int .i64 0) := hbx2.cell 2
  have x3 : w2.cell? ⟨w.heap.size, 3, none⟩ = some (.bool false) := hbx2.cell 3
  have x4 : w2.cell? ⟨w.heap.size, 4, none⟩ = some (.bool false) := hbx2.cell 4
  have x5 : w2.cell? ⟨w.heap.size, 5, none⟩ = some (.bool false) := hbx2.cell 5
  have hfx := hbx2.frozen
  have hne1 : rb ≠ w.heap.size := by omega
  have hne2 : b ≠ w.heap.size := by omega
  have hsz2 : w.heap.size < w2.heap.size := hbx2.lt
  have hO2' : Only [b, rb] w w2 := Only.trans (S' := [b]) (Only.setCell (Only.trans (S' := []) ((Only.refl [b, rb] w).alloc _) (only_of_below hb1) (by simp)) (.inl (by simp)) _) hO2 (by simp)
  have hpb := hbx2.set 0 (.int .i64 p.num) |>.set 1 (.int .i64 p.time) |>.set 2 (.int .i64 p.size) |>.set 3 (.bool p.el) |>.set 4 (.bool p.fl) |>.set 5 (.bool p.ect)
  have hlq : (q.set i (p, false)).length = q.length := List.length_set
  rw [← hlq] at hL2
  have HK2 := hide hk2
  clear hk2 hC1 hbx
  go_wp2
  go_loopg [26] q.length (fun kx s26 wr => ∃ (fr2 : Nat) (q2 : List Sl), q2.length ≤ kx ∧ LogC wr b rb m room last fr2 q2.length (without n ps).length (flightOf (without n ps)) (elicOf (without n ps)) (ring.set k (p, false)) ∧ Ring m fr2 (ring.set k (p, false)) q2 ∧
    q2 <:+ q.set i (p, false) ∧ liveOf q2 = liveOf (q.set i (p, false)) ∧ Only [b, rb] w wr ∧ Blk wr w.heap.size 40 #[.int .i64 p.num, .int .i64 p.time, .int .i64 p.size, .bool p.el, .bool p.fl, .bool p.ect])
  case atStart =>
    refine ⟨fr, q.set i (p, false), Nat.le_of_eq hlq, ?_, hRS, List.suffix_refl _, rfl, ?_, hpb.eq (by simp)⟩
    · exact (((((hL2.far hne2 hne1 _).far hne2 hne1 _).far hne2 hne1 _).far hne2 hne1 _).far hne2 hne1 _).far hne2 hne1 _
    · exact (((((hO2'.setCell (.inr (Nat.le_refl _)) _).setCell (.inr (Nat.le_refl _)) _).setCell (.inr (Nat.le_refl _)) _).setCell (.inr (Nat.le_refl _)) _).setCell (.inr (Nat.le_refl _)) _).setCell (.inr (Nat.le_refl _)) _
  case round =>
    obtain ⟨fr2, q2, hkx, hL3, hR3, hsf, hlv3, hO3, hB3⟩ := hrel
    have c2 : wr.cell? ⟨b, 2, none⟩ = some (.slice (some ⟨rb, 0, none⟩) m hL3.cap) := hL3.cell 2
    have c3 : wr.cell? ⟨b, 3, none⟩ = some (.int .i64 fr2) := hL3.cell 3
    have c4 : wr.cell? ⟨b, 4, none⟩ = some (.int .i64 q2.length) := hL3.cell 4
    have b0 : wr.cell? ⟨w.heap.size, 0, none⟩ = some (.int .i64 p.num) := hB3.cell 0
    have b1 : wr.cell? ⟨w.heap.size, 1, none⟩ = some (.int .i64 p.time) := hB3.cell 1
    have b2 : wr.cell? ⟨w.heap.size, 2, none⟩ = some (.int .i64 p.size) := hB3.cell 2
    have b3 : wr.cell? ⟨w.heap.size, 3, none⟩ = some (.bool p.el) := hB3.cell 3
    have b4 : wr.cell? ⟨w.heap.size, 4, none⟩ = some (.bool p.fl) := hB3.cell 4
    have b5 : wr.cell? ⟨w.heap.size, 5, none⟩ = some (.bool p.ect) := hB3.cell 5
    have hf3 := hB3.frozen
    have hf4 := hL3.blk.frozen
    have hfm := hR3.frm
    have hqm := hR3.long
    have hm1 : 1 ≤ m := by omega
    have hm2 : m ≤ 512 := by have := HM.out; omega
    have hA := fun (c : Nat) (W : World) (g2 : W.cell? ⟨b, 2, none⟩ = some (.slice (some ⟨rb, 0, none⟩) m c)) (g3 : W.cell? ⟨b, 3, none⟩ = some (.int .i64 fr2)) => at_any b rb m fr2 0 W g2 g3 (by omega) (by omega) (by omega) (by omega)
    simp only [Nat.add_zero, Nat.mod_eq_of_lt hfm, Int.natCast_zero] at hA
    have HAT := hide hA
    clear hA
    clear z0 z1 z2 z3 z4 z5 z6 y0 y1 y2 y3 y4 y5 y6 x0 x1 x2 x3 x4 x5 hfx hpb hL2 hO2 hbx2 hfr1
    cases q2 with
    | nil =>
      have c4' : wr.cell? ⟨b, 4, none⟩ = some (.int .i64 0) := c4
      have HEAD : Hid (∀ s, ([] : List Sl).head? = some s → s.2 = true) := by intro s h; cases h
      clear c4
      go_wp2_with (first | (go_at_call 110; refine (HAT.out _ _ c2 c3).mono ?_; rintro e4 w4 ⟨rfl, nq, rfl⟩))
      refine bodyPost_ret (v := .tuple #[.agg #[.int .i64 p.num, .int .i64 p.time, .int .i64 p.size, .bool p.el, .bool p.fl, .bool p.ect], .bool true]) (by simp [results, Tryz.results98, go_sem, b0, b1, b2, b3, b4, b5]) rfl ⟨rfl, drop_end ?_ hR3 hG HQ.out hsf hlv3 HLV.out HEAD.out, ?_⟩
      · repeat (first | with_reducible refine LogC.far ?_ hne2 hne1 _ | with_reducible refine LogC.drewN ?_ _)
        exact hL3
      · repeat (first | with_reducible refine Only.setCell ?_ (.inr (Nat.le_refl _)) _ | with_reducible refine Only.drewN ?_ _)
        exact hO3
    | cons s q3 =>
      have hat3 := hR3.at_ 0 (by simp)
      simp only [Nat.add_zero, List.getElem?_cons_zero, Nat.mod_eq_of_lt hfm] at hat3
      obtain ⟨t0, t1, t2, t3, t4, t5, t6⟩ := hL3.slot hat3
      have HT3 := hide hat3
      clear hat3
      have hpos : (0 : Int) < (((s :: q3).length : Nat) : Int) := by simp only [List.length_cons]; omega
      obtain ⟨ln, hln⟩ : ∃ ln, (s :: q3).length = ln := ⟨_, rfl⟩
      rw [hln] at c4 hpos hkx hqm
      cases hs2 : s.2
      · rw [hs2] at t6
        have hlv4 : liveOf q3 = liveOf (q.set i (p, false)) := by rw [← hlv3, set_there hs2]
        have hsf4 : q3 <:+ q.set i (p, false) := (List.suffix_cons s q3).trans hsf
        have HS2 := hide hs2
        have HLN := hide hln
        have HL3 := hide hlv3
        have HL4 := hide hlv4
        clear hs2 hln hlv3 hlv4
        go_wp2_with (go_at_call 110; refine (HAT.out _ _ c2 c3).mono ?_; rintro e4 w4 ⟨rfl, nq, rfl⟩)
        go_region
        all_goals go_wp2
        all_goals
          go_roundg q3.length
          case measure => have := HLN.out; simp only [List.length_cons] at this; omega
          case rel =>
            refine ⟨(fr2 + 1) % m, q3, Nat.le_refl _, ?_, hR3.pop, hsf4, HL4.out, ?_, ?_⟩
            · exact ((hL3.drewN _).setFrom (k := (fr2 + 1) % m) (by rw [Int.natCast_emod]; rfl)).setLong (k := q3.length) (by have := HLN.out; simp only [List.length_cons] at this; omega)
            · exact ((hO3.drewN _).setCell (.inl (by simp)) _).setCell (.inl (by simp)) _
            · exact ((hB3.drewN _).far hne2.symm _).far hne2.symm _
      · have HEAD : Hid (∀ s', (s :: q3).head? = some s' → s'.2 = true) := by intro s' h; cases h; exact hs2
        rw [hs2] at t6
        have HS2 := hide hs2
        have HLN := hide hln
        clear hs2 hln
        go_wp2_with (first | (go_at_call 110; refine (HAT.out _ _ c2 c3).mono ?_; rintro e4 w4 ⟨rfl, nq, rfl⟩))
        refine bodyPost_ret (v := .tuple #[.agg #[.int .i64 p.num, .int .i64 p.time, .int .i64 p.size, .bool p.el, .bool p.fl, .bool p.ect], .bool true]) (by simp [results, Tryz.results98, go_sem, b0, b1, b2, b3, b4, b5]) rfl ⟨rfl, drop_end ?_ hR3 hG HQ.out hsf hlv3 HLV.out HEAD.out, ?_⟩
        · repeat (first | with_reducible refine LogC.far ?_ hne2 hne1 _ | with_reducible refine LogC.drewN ?_ _)
          exact hL3
        · repeat (first | with_reducible refine Only.setCell ?_ (.inr (Nat.le_refl _)) _ | with_reducible refine Only.drewN ?_ _)
          exact hO3
end Go.Proofs.YtgicljeedegncaaGreat

namespace Go.Proofs.YtgicljeedegncaaGreat
open Go.RowKit

/-- The packets from one number to another one. -/
def between (lo hi : Int) (ps : List Pk) : List Pk := ps.filter fun p => decide (lo ≤ p.num) && decide (p.num ≤ hi)

theorem live_length (q : List Sl) : (liveOf q).length ≤ q.length := by
  unfold liveOf; rw [List.length_map]; exact List.length_filter_le _ _
theorem live_append (a b : List Sl) : liveOf (a ++ b) = liveOf a ++ liveOf b := by simp [liveOf]
theorem between_at {lo hi : Int} {q : List Sl} {k : Nat} (hs : q.Pairwise fun a b => a.1.num < b.1.num) (h1 : firstAt lo q ≤ k) (h2 : ∀ j s, j < k → q[j]? = some s → firstAt lo q ≤ j → s.1.num ≤ hi)
    (h3 : ∀ s, q[k]? = some s → hi < s.1.num) : liveOf ((q.take k).drop (firstAt lo q)) = between lo hi (liveOf q) := by
  have e : q = q.take (firstAt lo q) ++ ((q.take k).drop (firstAt lo q) ++ q.drop k) := by
    rw [← List.append_assoc]
    have : q.take (firstAt lo q) = (q.take k).take (firstAt lo q) := by rw [List.take_take, Nat.min_eq_left h1]
    rw [this, List.take_append_drop, List.take_append_drop]
  conv => rhs; rw [e]
  rw [live_append, live_append]
  unfold between
  rw [List.filter_append, List.filter_append]
  have a1 : (liveOf (q.take (firstAt lo q))).filter (fun p => decide (lo ≤ p.num) && decide (p.num ≤ hi)) = [] := by
    rw [List.filter_eq_nil_iff]
    intro p hp
    obtain ⟨i, hi1, hi2⟩ := List.getElem_of_mem (mem_live hp)
    have hl : i < firstAt lo q := by simp at hi1; omega
    have := firstAt_lt (s := (p, true)) hl (by rw [← hi2, List.getElem_take, List.getElem?_eq_getElem])
    simp only at this
    simp; omega
  have a2 : (liveOf (q.drop k)).filter (fun p => decide (lo ≤ p.num) && decide (p.num ≤ hi)) = [] := by
    rw [List.filter_eq_nil_iff]
    intro p hp
    have hm := mem_live hp
    cases hq : q[k]? with
    | none => rw [List.drop_eq_nil_of_le (by simpa using hq)] at hm; cases hm
    | some s =>
      have hk := h3 s hq
      obtain ⟨hkl, hke⟩ := List.getElem?_eq_some_iff.1 hq
      rw [List.drop_eq_getElem_cons hkl, hke] at hm
      have hsd : (q.drop k).Pairwise fun a b => a.1.num < b.1.num := hs.sublist (List.drop_sublist _ _)
      rw [List.drop_eq_getElem_cons hkl, hke] at hsd
      rcases List.mem_cons.1 hm with rfl | hm
      · simp only at hk; simp; omega
      · have := (List.pairwise_cons.1 hsd).1 _ hm
        simp only at this; simp; omega
  have a3 : (liveOf ((q.take k).drop (firstAt lo q))).filter (fun p => decide (lo ≤ p.num) && decide (p.num ≤ hi)) = liveOf ((q.take k).drop (firstAt lo q)) := by
    rw [List.filter_eq_self]
    intro p hp
    obtain ⟨i, hi1, hi2⟩ := List.getElem_of_mem (mem_live hp)
    simp at hi1
    have hq : q[firstAt lo q + i]? = some (p, true) := by
      rw [← hi2, List.getElem_drop, List.getElem_take, List.getElem?_eq_getElem]
    have b1 := firstAt_ge (n := lo) hs (by omega) hq
    have b2 := h2 (firstAt lo q + i) _ (by omega) hq (by omega)
    simp only at b1 b2
    simp; omega
  rw [a1, a2, a3]
  simp
theorem upto_keep {q : List Sl} {i k : Nat} {s : Sl} (h : q[k]? = some s) (hi : i ≤ k) : liveOf ((q.take (k + 1)).drop i) = liveOf ((q.take k).drop i) ++ (if s.2 = true then [s.1] else []) := by
  have hl := (List.getElem?_eq_some_iff.1 h).1
  rw [List.take_add_one, h, List.drop_append_of_le_length (by simp; omega), live_append]
  congr 1
  simp only [Option.toList_some]
  rw [liveOf_cons]
  rfl

theorem pk_info : (Tryz.prog.info? 40).map (fun i => (i.zero, i.size, i.bytes)) = some (some (.agg #[.int .i64 0, .int .i64 0, .int .i64 0, .bool false, .bool false, .bool false]), 6, 32) := by kernel_rfl

/-- A row of packets of the call's own, in its box. -/
def RowAt (w : World) (base ob : Nat) (ps : List Pk) : Prop := ∃ v, Blk w ob 153 #[v] ∧ w.ownsRow base 40 6 v ps.length (ps.flatMap Pk.cells)

theorem pkCells_length (p : Pk) : p.cells.length = 6 := rfl

/-- What the row's 'put' leaves. -/
def RowPost (w : World) (base ob : Nat) (ps : List Pk) (e : Ending) (w' : World) : Prop := e = .returned (.tuple #[]) ∧ RowAt w' base ob ps ∧ Below base w w'

set_option maxHeartbeats 2000000 in
theorem rowput_any (base ob : Nat) (ps : List Pk) (p : Pk) (w : World) (h : RowAt w base ob ps) (hb : base ≤ ob) (hlen : ps.length ≤ 1000) :
    Calls Tryz.prog 137 #[.pointer (some ⟨ob, 0, none⟩), .agg #[.int .i64 p.num, .int .i64 p.time, .int .i64 p.size, .bool p.el, .bool p.fl, .bool p.ect]] w (RowPost w base ob (ps ++ [p])) := by
  obtain ⟨v, hB, hown⟩ := h
  have hob := hB.lt
  have c0 : w.cell? ⟨ob, 0, none⟩ = some v := hB.cell 0
  have hf := hB.frozen
  obtain ⟨i0, hi, hz0, hz1, hz2⟩ := info_parts pk_info
  go_enter Tryz.func137, Tryz.ntmps137
  go_wp2
  have hneo := own_ne hown hB (by decide)
  go_region_law (refine step_append_any _ rfl (.tmp 7) (.tmp 9) _ rfl base 40 i0 _ 6 32 Tryz.underlying153 hi hz0 hz1 hz2 rfl (by decide) v ps.length (ps.flatMap Pk.cells) rfl (by exact (((hown.alloc _)).alloc _)) (w.heap.size + 2) (some ⟨w.heap.size + 1, 0, none⟩) 1 1 p.cells rfl (by exact reads_lit (blk_new_at (by simp)) (by simp) rfl) (by simp [Pk.cells, Value.oneCell']) (by unfold maxLen; omega) (by omega) (by simp; omega) ?_; intro v' w1 hown1 hg1 hat1; obtain ⟨g', cap', rfl⟩ := own_form hown1; have hB1 := blk_grown (t := 153) (cs := #[v]) (by exact ((hB.alloc _).alloc _)) hg1 hneo; have d0 : w1.cell? ⟨ob, 0, none⟩ = some v := hB1.cell 0; have d1 := hB1.frozen)
  all_goals go_end0
  all_goals
    refine ⟨rfl, ⟨_, hB1.set 0 _, ?_⟩, ?_⟩
    · have e1 : (ps ++ [p]).length = ps.length + 1 := by simp
      have e2 : (ps ++ [p]).flatMap Pk.cells = ps.flatMap Pk.cells ++ p.cells := by simp
      rw [e1, e2]
      exact own_far hown1 (own_ne hown1 hB1 (by decide)) _
    · have hbw : base ≤ w.heap.size := by omega
      exact ((Below.trans (((Below.refl base w).alloc hbw _).alloc (by simp; omega) _).drew (Below.grown (Below.refl base _) hg1 (by simp; omega) (fun k hk => (hown.lt k hk).1)))).setCell hb _

theorem LogC.belowB {w w' : World} {b rb m room : Nat} {last : Int} {fr long many : Nat} {fl el : Int} {ring : List Sl} {B : Nat} (h : LogC w b rb m room last fr long many fl el ring) (ho : Below B w w') (hb : b < B) (hr : rb < B) : LogC w' b rb m room last fr long many fl el ring :=
  ⟨_, _, (ho.block b hb).trans h.blk, (ho.block rb hr).trans h.rng, h.m2, h.r1, h.r2⟩

theorem rowat_drewN {w : World} {base ob : Nat} {ps : List Pk} (h : RowAt w base ob ps) (n : Nat) : RowAt (w.drewN n) base ob ps := h

set_option maxHeartbeats 4000000 in
theorem each_any (base ob b rb room : Nat) (last lo hi : Int) (ps : List Pk) (w : World) (hL : IsLog w b rb room last ps) (hrow : RowAt w base ob []) (hob : base ≤ ob) (hb : b < base) (hrb : rb < base) :
    Calls Tryz.prog 136 #[.pointer (some ⟨b, 0, none⟩), .int .i64 lo, .int .i64 hi, .func (.func 137) #[.pointer (some ⟨ob, 0, none⟩)] #[]] w (RowPost w base ob (between lo hi ps)) := by
  obtain ⟨m, fr, ring, q, hC, hR, hG, hp⟩ := hL
  have hr1 := hC.r1
  have hr2 := hC.r2
  have hm2 := hC.m2
  have hfm := hR.frm
  have hqm := hR.long
  have hF := find_any lo hC hR hG.sorted
  have hle := firstAt_le lo q
  have hBA := fun k => @between_at lo hi q k
  have hobl : ob < w.heap.size := by obtain ⟨v, hv, _⟩ := hrow; exact hv.lt
  have hm3 : m ≤ 512 := by omega
  have hm4 : 1 ≤ m := by omega
  obtain ⟨i0, hie⟩ : ∃ i, firstAt lo q = i := ⟨_, rfl⟩
  rw [hie] at hF hle hBA
  have HF := hide hF
  have HI := hide hie
  have HM := hide hm2
  have HP := hide hp
  have HG := hide hG
  have HBA := hide hBA
  have HRW := hide hrow
  clear hF hie hm2 hp hG hBA hrow
  go_enter Tryz.func136, Tryz.ntmps136
  go_wp2_with (first | (go_at_call 99; refine (none_no b room _ (hC.cell 0) hr1).mono ?_; rintro e1 w1 ⟨rfl, rfl⟩) | (go_at_call 170; refine HF.out.mono ?_; rintro e1 w1 ⟨rfl, hb1⟩))
  go_loopg [8] q.length (fun kx s8 wr => ∃ k : Nat, s8 = .int .i64 k ∧ i0 ≤ k ∧ k ≤ q.length ∧ q.length - k ≤ kx ∧ Hid (∀ (j : Nat) (s : Sl), j < k → q[j]? = some s → i0 ≤ j → s.1.num ≤ hi) ∧ Hid (RowAt wr base ob (liveOf ((q.take k).drop i0))) ∧ Below base w wr)
  case atStart =>
    refine ⟨i0, rfl, Nat.le_refl _, hle, by omega, fun j s h1 _ h2 => by omega, ?_, hb1.mono (by omega)⟩
    rw [List.drop_take_self]
    obtain ⟨v, hv, hown⟩ := HRW.out
    obtain ⟨rfl, _⟩ | ⟨g, cap, cur, hvv, hg, hh, hr⟩ := hown.2
    · exact ⟨_, (only_of_below hb1 (S := [])).blk hv (by simp), hown.1, .inl ⟨rfl, rfl⟩⟩
    · refine ⟨v, (only_of_below hb1 (S := [])).blk hv (by simp), hown.1, .inr ⟨g, cap, cur, hvv, hg, ?_, hr⟩⟩
      exact (hb1.block g (Array.getElem?_eq_some_iff.1 hh).1).trans hh
  case round =>
    obtain ⟨k, rfl, hk1, hk2, hkx, HN, HR, hBw⟩ := hrel
    have hCw := hC.belowB hBw hb hrb
    have c2 : wr.cell? ⟨b, 2, none⟩ = some (.slice (some ⟨rb, 0, none⟩) m hCw.cap) := hCw.cell 2
    have c3 : wr.cell? ⟨b, 3, none⟩ = some (.int .i64 fr) := hCw.cell 3
    have c4 : wr.cell? ⟨b, 4, none⟩ = some (.int .i64 q.length) := hCw.cell 4
    have hA := fun (c : Nat) (W : World) (g2 : W.cell? ⟨b, 2, none⟩ = some (.slice (some ⟨rb, 0, none⟩) m c)) (g3 : W.cell? ⟨b, 3, none⟩ = some (.int .i64 fr)) => at_any b rb m fr k W g2 g3 (by omega) (by omega) (by omega) (by omega)
    have HAT := hide hA
    clear hA
    by_cases hlt : k < q.length
    · have hs : q[k]? = some q[k] := List.getElem?_eq_getElem hlt
      obtain ⟨s, hsx⟩ : ∃ s, q[k] = s := ⟨_, rfl⟩
      rw [hsx] at hs
      have hat := hR.at_ k hlt
      rw [hs] at hat
      obtain ⟨z0, z1, z2, z3, z4, z5, z6⟩ := hCw.slot hat
      have hup := upto_keep hs hk1
      have hll : (liveOf ((q.take k).drop i0)).length ≤ 1000 := by
        have h1 := live_length ((q.take k).drop i0)
        simp only [List.length_drop, List.length_take] at h1
        omega
      have HS := hide hs
      have HX := hide hat
      clear hs hsx hat
      by_cases hnum : s.1.num ≤ hi
      · have hN2 : Hid (∀ (j : Nat) (s : Sl), j < k + 1 → q[j]? = some s → i0 ≤ j → s.1.num ≤ hi) := fun j s' h1 h2 h3 => by
          by_cases e : j = k
          · subst e; rw [HS.out] at h2; cases h2; exact hnum
          · exact HN.out j s' (by omega) h2 h3
        cases hth : s.2
        · rw [hth] at z6 hup
          simp only [Bool.false_eq_true, if_false, List.append_nil] at hup
          have HU := hide hup
          have HT := hide hth
          clear hup hth
          go_wp2_with (go_at_call 110; refine (HAT.out _ _ (by exact c2) (by exact c3)).mono ?_; rintro e4 w4 ⟨rfl, nq, rfl⟩)
          go_roundg (q.length - (k + 1))
          case measure => omega
          case rel => exact ⟨k + 1, by go_num, by omega, by omega, Nat.le_refl _, hN2, by rw [HU.out]; exact rowat_drewN HR.out _, below_drewN hBw _⟩
        · rw [hth] at z6 hup
          simp only [if_true] at hup
          have HU := hide hup
          have HT := hide hth
          clear hup hth
          go_wp2_with (first | (go_at_call 110; refine (HAT.out _ _ (by exact c2) (by exact c3)).mono ?_; rintro e4 w4 ⟨rfl, nq, rfl⟩) | (go_at_call 137; refine (rowput_any base ob _ s.1 _ (rowat_drewN HR.out _) hob hll).mono ?_; rintro e5 w5 ⟨rfl, hR5, hB5⟩))
          go_roundg (q.length - (k + 1))
          case measure => omega
          case rel => exact ⟨k + 1, by go_num, by omega, by omega, Nat.le_refl _, hN2, by rw [HU.out]; exact hR5, (below_drewN hBw _).trans hB5⟩
      · have hnum' : hi < s.1.num := by omega
        have hnd : decide (s.1.num ≤ hi) = false := by simp; omega
        go_wp2_with (go_at_call 110; refine (HAT.out _ _ (by exact c2) (by exact c3)).mono ?_; rintro e4 w4 ⟨rfl, nq, rfl⟩)
        go_end0
        refine ⟨rfl, ?_, below_drewN hBw _⟩
        rw [HP.out, ← HBA.out k HG.out.sorted hk1 HN.out (fun s' h => by rw [HS.out] at h; cases h; exact hnum')]
        exact rowat_drewN HR.out _
    · obtain rfl : k = q.length := by omega
      go_wp2_with (go_at_call 110; refine (HAT.out _ _ (by exact c2) (by exact c3)).mono ?_; rintro e4 w4 ⟨rfl, nq, rfl⟩)
      go_end0
      refine ⟨rfl, ?_, hBw⟩
      rw [HP.out, ← HBA.out q.length HG.out.sorted hk1 HN.out (fun s' h => by simp at h)]
      exact HR.out

/-- A slice of packets in new memory. -/
def PksPost (w : World) (ps : List Pk) (e : Ending) (w' : World) : Prop := ∃ v, e = .returned v ∧ w'.ownsRow w.heap.size 40 6 v ps.length (ps.flatMap Pk.cells) ∧ Below w.heap.size w w'

set_option maxHeartbeats 1000000 in
theorem between_any (b rb room : Nat) (last lo hi : Int) (ps : List Pk) (w : World) (hL : IsLog w b rb room last ps) :
    Calls Tryz.prog 92 #[.pointer (some ⟨b, 0, none⟩), .int .i64 lo, .int .i64 hi] w (PksPost w (between lo hi ps)) := by
  have hL2 := hL
  obtain ⟨m, fr, ring, q, hC, hR, hG, hp⟩ := hL2
  have hb := hC.blk.lt
  have hrb := hC.rng.lt
  have hLa : IsLog (w.alloc (.cells #[.slice none 0 0] 153)) b rb room last ps := ⟨m, fr, ring, q, hC.alloc _, hR, hG, hp⟩
  have HE := hide (each_any w.heap.size w.heap.size b rb room last lo hi ps _ hLa ⟨_, Blk.new _ _ _, by simp, .inl ⟨rfl, rfl⟩⟩ (Nat.le_refl _) hb hrb)
  clear hp hLa hL
  go_enter Tryz.func92, Tryz.ntmps92
  go_wp2_with (go_at_call 136; refine HE.out.mono ?_; rintro e1 w1 ⟨rfl, ⟨v, hB1, hown1⟩, hb1⟩; have c0 : w1.cell? ⟨w.heap.size, 0, none⟩ = some v := hB1.cell 0)
  go_ret
  exact ⟨v, rfl, hown1, ((Below.refl _ _).alloc (Nat.le_refl _) _).trans hb1⟩

theorem between_all {ps : List Pk} (h : ∀ p ∈ ps, p.may) : between 0 9007199254740991 ps = ps := by
  unfold between
  rw [List.filter_eq_self]
  intro p hp
  obtain ⟨h1, h2, _⟩ := h p hp
  simp; omega

theorem IsLog.may {w : World} {b rb room : Nat} {last : Int} {ps : List Pk} (h : IsLog w b rb room last ps) : ∀ p ∈ ps, p.may := by
  obtain ⟨m, fr, ring, q, hC, hR, hG, hp⟩ := h
  rw [hp]; exact live_may hG.may
theorem IsLog.sorted {w : World} {b rb room : Nat} {last : Int} {ps : List Pk} (h : IsLog w b rb room last ps) : ps.Pairwise fun a b => a.num < b.num := by
  obtain ⟨m, fr, ring, q, hC, hR, hG, hp⟩ := h
  rw [hp]; exact live_sorted hG.sorted
theorem IsLog.le_last {w : World} {b rb room : Nat} {last : Int} {ps : List Pk} (h : IsLog w b rb room last ps) : ∀ p ∈ ps, p.num ≤ last := by
  obtain ⟨m, fr, ring, q, hC, hR, hG, hp⟩ := h
  intro p hpm
  rw [hp] at hpm
  exact hG.le _ (mem_live hpm)
theorem IsLog.room {w : World} {b rb room : Nat} {last : Int} {ps : List Pk} (h : IsLog w b rb room last ps) : ps.length ≤ room ∧ 1 ≤ room ∧ room ≤ 256 := by
  obtain ⟨m, fr, ring, q, hC, hR, hG, hp⟩ := h
  rw [hp]; exact ⟨hG.room, hC.r1, hC.r2⟩
theorem IsLog.last {w : World} {b rb room : Nat} {last : Int} {ps : List Pk} (h : IsLog w b rb room last ps) : -1 ≤ last ∧ last ≤ 9007199254740991 := by
  obtain ⟨m, fr, ring, q, hC, hR, hG, hp⟩ := h
  exact hG.last
theorem IsLog.lt {w : World} {b rb room : Nat} {last : Int} {ps : List Pk} (h : IsLog w b rb room last ps) : b < w.heap.size ∧ rb < w.heap.size ∧ b ≠ rb := by
  obtain ⟨m, fr, ring, q, hC, hR, hG, hp⟩ := h
  exact ⟨hC.blk.lt, hC.rng.lt, hC.ne⟩
theorem IsLog.only {S : List Nat} {w w' : World} {b rb room : Nat} {last : Int} {ps : List Pk} (h : IsLog w b rb room last ps) (ho : Only S w w') (hb : b ∉ S) (hr : rb ∉ S) : IsLog w' b rb room last ps := by
  obtain ⟨m, fr, ring, q, hC, hR, hG, hp⟩ := h
  exact ⟨m, fr, ring, q, hC.only ho hb hr, hR, hG, hp⟩
theorem IsLog.below {w w' : World} {b rb room : Nat} {last : Int} {ps : List Pk} (h : IsLog w b rb room last ps) (ho : Below w.heap.size w w') : IsLog w' b rb room last ps :=
  h.only (S := []) (only_of_below ho) (by simp) (by simp)
theorem IsLog.alloc {w : World} {b rb room : Nat} {last : Int} {ps : List Pk} (h : IsLog w b rb room last ps) (o : Obj) : IsLog (w.alloc o) b rb room last ps := by
  obtain ⟨m, fr, ring, q, hC, hR, hG, hp⟩ := h
  exact ⟨m, fr, ring, q, hC.alloc o, hR, hG, hp⟩
theorem IsLog.drewN {w : World} {b rb room : Nat} {last : Int} {ps : List Pk} (h : IsLog w b rb room last ps) (n : Nat) : IsLog (w.drewN n) b rb room last ps := by
  obtain ⟨m, fr, ring, q, hC, hR, hG, hp⟩ := h
  exact ⟨m, fr, ring, q, hC.drewN n, hR, hG, hp⟩
theorem IsLog.drew {w : World} {b rb room : Nat} {last : Int} {ps : List Pk} (h : IsLog w b rb room last ps) : IsLog w.drew b rb room last ps := h.drewN 1
theorem IsLog.far {w : World} {b rb room : Nat} {last : Int} {ps : List Pk} (h : IsLog w b rb room last ps) {p : Addr} (hb : b ≠ p.block) (hr : rb ≠ p.block) (u : Value) : IsLog (w.setCell p u) b rb room last ps := by
  obtain ⟨m, fr, ring, q, hC, hR, hG, hp⟩ := h
  exact ⟨m, fr, ring, q, hC.far hb hr u, hR, hG, hp⟩

set_option maxHeartbeats 1000000 in
theorem all_any (b rb room : Nat) (last : Int) (ps : List Pk) (w : World) (hL : IsLog w b rb room last ps) :
    Calls Tryz.prog 50 #[.pointer (some ⟨b, 0, none⟩)] w (PksPost w ps) := by
  have hB := between_any b rb room last 0 9007199254740991 ps w hL
  rw [between_all hL.may] at hB
  have HE := hide hB
  clear hB hL
  go_enter Tryz.func50, Tryz.ntmps50
  go_wp2_with (go_at_call 92; refine HE.out.mono ?_; rintro e1 w1 ⟨v, rfl, hown1, hb1⟩)
  go_ret
  exact ⟨v, rfl, hown1, hb1⟩
end Go.Proofs.YtgicljeedegncaaGreat

namespace Go.Proofs.YtgicljeedegncaaGreat
open Go.RowKit

/-- What slices.Clone leaves of a ring. -/
def ClonePost (w : World) (m : Nat) (xs : List Value) (e : Ending) (w' : World) : Prop := ∃ v, e = .returned v ∧ w'.ownsRow w.heap.size 137 7 v m xs ∧ Below w.heap.size w w'

theorem sl_one {r : List Sl} : ∀ u ∈ r.flatMap slCells, u.oneCell' = true := by
  intro u hu
  obtain ⟨s, _, hs⟩ := List.mem_flatMap.1 hu
  simp [slCells] at hs
  rcases hs with h | h | h | h | h | h | h <;> subst h <;> rfl

set_option maxHeartbeats 1000000 in
theorem clone_any (rb m cap : Nat) (ring : List Sl) (rest : List Value) (w : World) (h : Blk w rb 137 (ring.flatMap slCells ++ rest).toArray) (hl : ring.length = m) (hm : m ≤ 512) :
    Calls Tryz.prog 131 #[.slice (some ⟨rb, 0, none⟩) m cap] w (ClonePost w m (ring.flatMap slCells)) := by
  have hrb := h.lt
  obtain ⟨i0, hi, hz0, hz1, hz2⟩ := info_parts slot_info
  have hfl := flat_length slCells 7 slCells_length ring
  have hR : Reads w w.heap.size 7 (some ⟨rb, 0, none⟩) m (ring.flatMap slCells) := ⟨by rw [hfl, hl], fun _ => ⟨_, rfl, hrb, fun j u hu => by
    rw [add_at, h.cell, List.getElem?_toArray, List.getElem?_append_left (List.getElem?_eq_some_iff.1 hu).1]; exact hu⟩⟩
  have HR := hide hR
  have HL := hide hl
  clear hR hl hfl
  have hnil := fun (W : World) => Lib.run_eql_slice_nil (P := Tryz.prog) W 117 137 (some ⟨rb, 0, none⟩) m cap 0 0 Tryz.underlying117
  go_enter Tryz.func131, Tryz.ntmps131
  go_wp2_with (at_builtin; refine wpList_append_any _ rfl (.tmp 5) (.tmp 6) _ rfl w.heap.size 137 i0 _ 7 40 Tryz.underlying117 hi hz0 hz1 hz2 rfl (by decide) (.slice (some ⟨w.heap.size, 0, none⟩) 0 0) 0 [] rfl (by exact World.ownsRow_lit w #[] 0 (Nat.le_refl _) (by decide) rfl) w.heap.size (some ⟨rb, 0, none⟩) m cap (ring.flatMap slCells) rfl (by exact HR.out.alloc (Nat.le_refl _) _) sl_one (by unfold maxLen; omega) (by omega) (by simp) ?_; intro v' w1 hown1 hg1 hat1)
  go_ret
  refine ⟨v', rfl, by simpa using hown1, ((Below.refl _ _).alloc (Nat.le_refl _) _).trans (Below.grown (Below.refl _ _) hg1 (by simp) (fun k hk => by simp [Value.ownBlock] at hk; omega))⟩

/-- What Copy leaves. -/
def CopyPost (w : World) (room : Nat) (last : Int) (ps : List Pk) (e : Ending) (w' : World) : Prop :=
  ∃ b' rb', e = .returned (.pointer (some ⟨b', 0, none⟩)) ∧ IsLog w' b' rb' room last ps ∧ w.heap.size ≤ b' ∧ w.heap.size ≤ rb' ∧ Below w.heap.size w w'

set_option maxHeartbeats 1000000 in
theorem copy_any (b rb room : Nat) (last : Int) (ps : List Pk) (w : World) (hL : IsLog w b rb room last ps) :
    Calls Tryz.prog 84 #[.pointer (some ⟨b, 0, none⟩)] w (CopyPost w room last ps) := by
  obtain ⟨m, fr, ring, q, hC, hR, hG, hp⟩ := hL
  have hb := hC.blk.lt
  have hrb := hC.rng.lt
  have hr1 := hC.r1
  have hr2 := hC.r2
  have hm2 := hC.m2
  have c0 : w.cell? ⟨b, 0, none⟩ = some (.int .i64 room) := hC.cell 0
  have c1 : w.cell? ⟨b, 1, none⟩ = some (.int .i64 last) := hC.cell 1
  have c2 : w.cell? ⟨b, 2, none⟩ = some (.slice (some ⟨rb, 0, none⟩) m hC.cap) := hC.cell 2
  have c3 : w.cell? ⟨b, 3, none⟩ = some (.int .i64 fr) := hC.cell 3
  have c4 : w.cell? ⟨b, 4, none⟩ = some (.int .i64 q.length) := hC.cell 4
  have c5 : w.cell? ⟨b, 5, none⟩ = some (.int .i64 ps.length) := hC.cell 5
  have c6 : w.cell? ⟨b, 6, none⟩ = some (.int .i64 (flightOf ps)) := hC.cell 6
  have c7 : w.cell? ⟨b, 7, none⟩ = some (.int .i64 (elicOf ps)) := hC.cell 7
  have HK := hide (fun (t : TypeId) (cs : Array Value) => clone_any rb m hC.cap ring hC.rest (w.alloc (.cells cs t)) (hC.rng.alloc _) hR.len (by omega))
  have HP := hide hp
  have HM := hide hm2
  have hm1 : 1 ≤ m := by omega
  clear hp hm2
  go_enter Tryz.func84, Tryz.ntmps84
  go_wp2_with (first | (go_at_call 99; refine (none_no b room _ (hC.cell 0) hr1).mono ?_; rintro e1 w1 ⟨rfl, rfl⟩) | (go_at_call 131; refine (HK.out _ _).mono ?_; rintro e1 w1 ⟨v, rfl, hown1, hb1⟩; obtain ⟨g, cap', rest', rfl, hg, hcap, hBg⟩ := own_blk hown1 hm1; have hB1 := (only_of_below hb1 (S := [])).blk (Blk.new w _ _) (by simp); have d2 : w1.cell? ⟨w.heap.size, 2, none⟩ = some (.slice (some ⟨rb, 0, none⟩) m hC.cap) := hB1.cell 2; have df := hB1.frozen))
  go_ret
  simp only [World.size_alloc] at hg
  refine ⟨w.heap.size, g, rfl, ⟨m, fr, ring, q, ⟨cap', rest', (hB1.set 2 _).eq (by simp), hBg.far (by simp; omega) _, HM.out, hr1, hr2⟩, hR, hG, HP.out⟩, Nat.le_refl _, by omega, (((Below.refl _ _).alloc (Nat.le_refl _) _).trans (hb1.mono (by simp))).setCell (by simp) _⟩
end Go.Proofs.YtgicljeedegncaaGreat
