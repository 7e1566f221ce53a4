/-
 3 texts in one (SentW5, SentW6, SentW7).
-/
import Derived.Test.YtgicljeedegncaaGreatTqSentPut
import Derived.Test.YtgicljeedegncaaGreatTqSentPlain
import Derived.Laws.ResultCell
namespace Go.Proofs.YtgicljeedegncaaGreat
open List renaming getElem?_cons_zero → ZH
open Go.Value renaming int → ZI
open Go.IntKind renaming i64 → ZQ
open Go.RowKit

set_option maxHeartbeats 1000000 in
theorem slot_is {w : World} {b rb m room : Nat} {last : Int} {fr many : Nat} {fl el : Int} {ring q : List Sl} (n : Int) (p : Pk) (hC : LogC w b rb m room last fr q.length many fl el ring) (hR : Ring m fr ring q)
  (hs : q.Pairwise fun a b => a.1.num < b.1.num) (hq : q[firstAt n q]? = some (p, true)) (hn : p.num = n) :
  Calls Tryz.prog 147 #[.pointer (some ⟨b, 0, none⟩), ZI ZQ n] w fun e w' => e = .returned (.pointer (some ⟨rb, (fr + firstAt n q) % m * 7, none⟩)) ∧ Below w.heap.size w w' := by
 have hr1 := hC.r1
 have hr2 := hC.r2
 have hm2 := hC.m2
 have hfm := hR.frm
 have hqm := hR.long
 have hi : firstAt n q < q.length := (List.getElem?_eq_some_iff.1 hq).1
 have hat := hR.at_ _ hi
 rw [hq] at hat
 have hF := find_any n hC hR hs
 obtain ⟨i, hie⟩ : ∃ i, firstAt n q = i := ⟨_, rfl⟩
 rw [hie] at hi hat hF ⊢
 have e4 : ((i : Int) == (q.length : Int)) = false := by rw [beq_eq_false_iff_ne]; omega
 have HF := hide hF
 have HI := hide hie
 have hn' : (p.num == n) = true := by rw [beq_iff_eq]; exact hn
 have HN := hide hn
 have HM := hide hm2
 have hm3 : m ≤ 512 := by omega
 have hm4 : 1 ≤ m := by omega
 clear hF hie hq hn hm2
 go_enter Tryz.func147, Tryz.ntmps147
 go_wp2_with (first | (go_at_call 99; refine (none_no b room _ (hC.cell 0) hr1).mono ?_; rintro e1 w1 ⟨rfl, rfl⟩) | (go_at_call 170; refine HF.out.mono ?_; rintro e1 w1 ⟨rfl, hb1⟩; have hC1 := hC.below hb1; have c2 : w1.cell? ⟨b, 2, none⟩ = some (.slice (some ⟨rb, 0, none⟩) m hC1.cap) := hC1.cell 2; have c3 : w1.cell? ⟨b, 3, none⟩ = some (ZI ZQ fr) := hC1.cell 3; have c4 : w1.cell? ⟨b, 4, none⟩ = some (ZI ZQ q.length) := hC1.cell 4; obtain ⟨z0, z1, z2, z3, z4, z5, z6⟩ := hC1.slot hat; simp only at z0 z6) | (go_at_call 110; refine (at_any b rb m fr i _ c2 c3 (by omega) (by omega) (by omega) (by omega)).mono ?_; rintro e2 w2 ⟨rfl, nq, rfl⟩))
 go_ret
 exact ⟨rfl, below_drewN hb1 _⟩

/-- The three ways to no slot. -/
def NoSlot (n : Int) (q : List Sl) : Prop := ∀ s, q[firstAt n q]? = some s → s.1.num ≠ n ∨ s.2 = false

set_option maxHeartbeats 1000000 in
theorem slot_none {w : World} {b rb m room : Nat} {last : Int} {fr many : Nat} {fl el : Int} {ring q : List Sl} (n : Int) (hC : LogC w b rb m room last fr q.length many fl el ring) (hR : Ring m fr ring q)
  (hs : q.Pairwise fun a b => a.1.num < b.1.num) (hq : NoSlot n q) :
  Calls Tryz.prog 147 #[.pointer (some ⟨b, 0, none⟩), ZI ZQ n] w fun e w' => e = .returned (.pointer none) ∧ Below w.heap.size w w' := by
 have hr1 := hC.r1
 have hr2 := hC.r2
 have hm2 := hC.m2
 have hfm := hR.frm
 have hqm := hR.long
 have hF := find_any n hC hR hs
 have hle := firstAt_le n q
 have hm3 : m ≤ 512 := by omega
 have hm4 : 1 ≤ m := by omega
 rcases Nat.lt_or_ge (firstAt n q) q.length with hi | hi
 ·have hat := hR.at_ _ hi
  have hqs : q[firstAt n q]? = some q[firstAt n q] := List.getElem?_eq_getElem hi
  have hno := hq _ hqs
  rw [hqs] at hat
  obtain ⟨p, hp⟩ : ∃ p, q[firstAt n q] = p := ⟨_, rfl⟩
  rw [hp] at hat hno
  obtain ⟨i, hie⟩ : ∃ i, firstAt n q = i := ⟨_, rfl⟩
  rw [hie] at hi hat hF hle
  have e4 : ((i : Int) == (q.length : Int)) = false := by rw [beq_eq_false_iff_ne]; omega
  have HF := hide hF
  have HI := hide hie
  have HM := hide hm2
  have HQ := hide hq
  clear hF hie hq hm2 hqs hp
  by_cases hn : p.1.num = n
  ·have hth : p.2 = false := hno.resolve_left (fun h => h hn)
   have hn' : (p.1.num == n) = true := by rw [beq_iff_eq]; exact hn
   have HN := hide hn
   have HT := hide hth
   clear hn hno hth
   go_enter Tryz.func147, Tryz.ntmps147
   go_wp2_with (first | (go_at_call 99; refine (none_no b room _ (hC.cell 0) hr1).mono ?_; rintro e1 w1 ⟨rfl, rfl⟩) | (go_at_call 170; refine HF.out.mono ?_; rintro e1 w1 ⟨rfl, hb1⟩; have hC1 := hC.below hb1; have c2 : w1.cell? ⟨b, 2, none⟩ = some (.slice (some ⟨rb, 0, none⟩) m hC1.cap) := hC1.cell 2; have c3 : w1.cell? ⟨b, 3, none⟩ = some (ZI ZQ fr) := hC1.cell 3; have c4 : w1.cell? ⟨b, 4, none⟩ = some (ZI ZQ q.length) := hC1.cell 4; obtain ⟨z0, z1, z2, z3, z4, z5, z6⟩ := hC1.slot hat; rw [HT.out] at z6) | (go_at_call 110; refine (at_any b rb m fr i _ c2 c3 (by omega) (by omega) (by omega) (by omega)).mono ?_; rintro e2 w2 ⟨rfl, nq, rfl⟩))
   go_ret
   exact ⟨rfl, below_drewN hb1 _⟩
  ·have hn' : (p.1.num == n) = false := by rw [beq_eq_false_iff_ne]; exact hn
   have HN := hide hn
   clear hn hno
   go_enter Tryz.func147, Tryz.ntmps147
   go_wp2_with (first | (go_at_call 99; refine (none_no b room _ (hC.cell 0) hr1).mono ?_; rintro e1 w1 ⟨rfl, rfl⟩) | (go_at_call 170; refine HF.out.mono ?_; rintro e1 w1 ⟨rfl, hb1⟩; have hC1 := hC.below hb1; have c2 : w1.cell? ⟨b, 2, none⟩ = some (.slice (some ⟨rb, 0, none⟩) m hC1.cap) := hC1.cell 2; have c3 : w1.cell? ⟨b, 3, none⟩ = some (ZI ZQ fr) := hC1.cell 3; have c4 : w1.cell? ⟨b, 4, none⟩ = some (ZI ZQ q.length) := hC1.cell 4; obtain ⟨z0, z1, z2, z3, z4, z5, z6⟩ := hC1.slot hat) | (go_at_call 110; refine (at_any b rb m fr i _ c2 c3 (by omega) (by omega) (by omega) (by omega)).mono ?_; rintro e2 w2 ⟨rfl, nq, rfl⟩))
   go_ret
   exact ⟨rfl, below_drewN hb1 _⟩
 ·have hie : firstAt n q = q.length := by omega
  rw [hie] at hF
  have HF := hide hF
  have HI := hide hie
  have HM := hide hm2
  have HQ := hide hq
  clear hF hie hq hm2
  go_enter Tryz.func147, Tryz.ntmps147
  go_wp2_with (first | (go_at_call 99; refine (none_no b room _ (hC.cell 0) hr1).mono ?_; rintro e1 w1 ⟨rfl, rfl⟩) | (go_at_call 170; refine HF.out.mono ?_; rintro e1 w1 ⟨rfl, hb1⟩; have hC1 := hC.below hb1; have c4 : w1.cell? ⟨b, 4, none⟩ = some (ZI ZQ q.length) := hC1.cell 4))
  go_ret
  exact ⟨rfl, hb1⟩
end Go.Proofs.YtgicljeedegncaaGreat

namespace Go.Proofs.YtgicljeedegncaaGreat
open List renaming getElem?_cons_zero → ZH
open Go.Value renaming int → ZI
open Go.IntKind renaming i64 → ZQ
open Go.RowKit

theorem slotAt_of {q : List Sl} {n : Int} {p : Pk} (hs : q.Pairwise fun a b => a.1.num < b.1.num) (h : (liveOf q).find? (fun p => p.num == n) = some p) : q[firstAt n q]? = some (p, true) ∧ p.num = n := by
 rw [find_at n q hs] at h
 split at h
 ·rename_i s e
  split at h
  ·rename_i h2
   have : s.1 = p := by simpa using h
   refine ⟨?_, by rw [← this]; exact h2.1⟩
   rw [e, ← this, ← h2.2]
  ·cases h
 ·cases h
theorem noSlot_of {q : List Sl} {n : Int} (hs : q.Pairwise fun a b => a.1.num < b.1.num) (h : (liveOf q).find? (fun p => p.num == n) = none) : NoSlot n q := by
 intro s e
 rw [find_at n q hs, e] at h
 simp only at h
 split at h
 ·cases h
 ·rename_i h2
  by_cases hn : s.1.num = n
  ·right; simpa [hn] using h2
  ·left; exact hn

/-- A packet as a value. -/
theorem oldest_head {q : List Sl} {room : Nat} {last : Int} {s : Sl} (h : Good room last (s :: q)) : liveOf (s :: q) = s.1 :: liveOf q := by
 rw [liveOf_cons, if_pos (h.head s rfl)]

set_option maxHeartbeats 1000000 in
theorem oldest_is (b rb room : Nat) (last : Int) (p : Pk) (ps : List Pk) (w : World) (hL : IsLog w b rb room last (p :: ps)) :
  Calls Tryz.prog 105 #[.pointer (some ⟨b, 0, none⟩)] w fun e w' => e = .returned (.tuple #[.agg #[ZI ZQ p.num, ZI ZQ p.time, ZI ZQ p.size, .bool p.el, .bool p.fl, .bool p.ect], .bool true]) ∧ Below w.heap.size w w' := by
 obtain ⟨m, fr, ring, q, hC, hR, hG, hp⟩ := hL
 cases q with
 | nil => simp [liveOf] at hp
 | cons s q =>
  rw [oldest_head hG] at hp
  obtain ⟨h1, h2⟩ := List.cons.inj hp
  subst h1
  have hat := hR.at_ 0 (by simp)
  simp only [Nat.add_zero, ZH] at hat
  have hb := hC.blk.lt
  have hrb := hC.rng.lt
  have hr1 := hC.r1
  have hr2 := hC.r2
  have hm2 := hC.m2
  have hm3 : m ≤ 512 := by omega
  have hm4 : 1 ≤ m := by omega
  have hfm := hR.frm
  have HM := hide hm2
  have c0 : w.cell? ⟨b, 0, none⟩ = some (ZI ZQ room) := hC.cell 0
  have c2 : w.cell? ⟨b, 2, none⟩ = some (.slice (some ⟨rb, 0, none⟩) m hC.cap) := hC.cell 2
  have c3 : w.cell? ⟨b, 3, none⟩ = some (ZI ZQ fr) := hC.cell 3
  have c4 : w.cell? ⟨b, 4, none⟩ = some (ZI ZQ ((q.length + 1 : Nat) : Int)) := hC.cell 4
  obtain ⟨z0, z1, z2, z3, z4, z5, z6⟩ := hC.slot hat
  have e4 : (((q.length + 1 : Nat) : Int) == 0) = false := by rw [beq_eq_false_iff_ne]; omega
  have e5 : ((q.length : Int) + 1 == 0) = false := by rw [beq_eq_false_iff_ne]; omega
  have hA := fun (c : Nat) (W : World) (g2 : W.cell? ⟨b, 2, none⟩ = some (.slice (some ⟨rb, 0, none⟩) m c)) (g3 : W.cell? ⟨b, 3, none⟩ = some (ZI ZQ fr)) => at_any b rb m fr 0 W g2 g3 (by omega) (by omega) (by omega) (by omega)
  simp only [Nat.add_zero, Nat.mod_eq_of_lt hfm, Int.natCast_zero] at hA
  rw [Nat.mod_eq_of_lt hfm] at z0 z1 z2 z3 z4 z5 z6
  have HA := hide hA
  have HP := hide hp
  have HH := hide h2
  have HT := hide hat
  clear hA hm2 hp h2 hat
  go_enter Tryz.func105, Tryz.ntmps105
  go_wp2_with (first | (go_at_call 99; refine (none_no b room _ ((hC.alloc _).cell 0) hr1).mono ?_; rintro e1 w1 ⟨rfl, rfl⟩) | (go_at_call 110; refine (HA.out _ _ ((hC.alloc _).cell 2) ((hC.alloc _).cell 3)).mono ?_; rintro e2 w2 ⟨rfl, nq, rfl⟩))
  refine bodyPost_ret (v := .tuple #[.agg #[ZI ZQ s.1.num, ZI ZQ s.1.time, ZI ZQ s.1.size, .bool s.1.el, .bool s.1.fl, .bool s.1.ect], .bool true]) (by simp [results, Tryz.results105, go_sem]) rfl ⟨rfl, ?_⟩
  refine Only.of_nil ?_
  repeat (first | with_reducible refine Only.setCell ?_ (.inr (Nat.le_refl _)) _ | with_reducible refine Only.drewN ?_ _)
  exact (Only.refl [] w).alloc _

set_option maxHeartbeats 1000000 in
theorem oldest_none (b rb room : Nat) (last : Int) (w : World) (hL : IsLog w b rb room last []) :
  Calls Tryz.prog 105 #[.pointer (some ⟨b, 0, none⟩)] w fun e w' => e = .returned (.tuple #[.agg #[ZI ZQ 0, ZI ZQ 0, ZI ZQ 0, .bool false, .bool false, .bool false], .bool false]) ∧ Below w.heap.size w w' := by
 obtain ⟨m, fr, ring, q, hC, hR, hG, hp⟩ := hL
 cases q with
 | cons s q => rw [oldest_head hG] at hp; cases hp
 | nil =>
  have hb := hC.blk.lt
  have hr1 := hC.r1
  have c0 : w.cell? ⟨b, 0, none⟩ = some (ZI ZQ room) := hC.cell 0
  have c4 : w.cell? ⟨b, 4, none⟩ = some (ZI ZQ 0) := hC.cell 4
  clear hp
  go_enter Tryz.func105, Tryz.ntmps105
  go_wp2_with (first | (go_at_call 99; refine (none_no b room _ ((hC.alloc _).cell 0) hr1).mono ?_; rintro e1 w1 ⟨rfl, rfl⟩))
  refine bodyPost_ret (v := .tuple #[.agg #[ZI ZQ 0, ZI ZQ 0, ZI ZQ 0, .bool false, .bool false, .bool false], .bool false]) (by simp [results, Tryz.results105, go_sem]) rfl ⟨rfl, ?_⟩
  refine Only.of_nil ?_
  repeat (first | with_reducible refine Only.setCell ?_ (.inr (Nat.le_refl _)) _ | with_reducible refine Only.drewN ?_ _)
  exact (Only.refl [] w).alloc _
end Go.Proofs.YtgicljeedegncaaGreat

namespace Go.Proofs.YtgicljeedegncaaGreat
open List renaming getElem?_cons_zero → ZH
open Go.Value renaming int → ZI
open Go.IntKind renaming i64 → ZQ
open Go.RowKit

/-- What Clear leaves. -/
def ClearPost (w : World) (b rb room : Nat) (last : Int) (e : Ending) (w' : World) : Prop := e = .returned (.tuple #[]) ∧ IsLog w' b rb room last [] ∧ Only [b] w w'

set_option maxHeartbeats 1000000 in
theorem clear_any (b rb room : Nat) (last : Int) (ps : List Pk) (w : World) (hL : IsLog w b rb room last ps) :
  Calls Tryz.prog 68 #[.pointer (some ⟨b, 0, none⟩)] w (ClearPost w b rb room last) := by
 obtain ⟨m, fr, ring, q, hC, hR, hG, hp⟩ := hL
 have hb := hC.blk.lt
 have hr1 := hC.r1
 have hfb := hC.blk.frozen
 have hm2 := hC.m2
 have c3 : w.cell? ⟨b, 3, none⟩ = some (ZI ZQ fr) := hC.cell 3
 have c4 : w.cell? ⟨b, 4, none⟩ = some (ZI ZQ q.length) := hC.cell 4
 have c5 : w.cell? ⟨b, 5, none⟩ = some (ZI ZQ ps.length) := hC.cell 5
 have c6 : w.cell? ⟨b, 6, none⟩ = some (ZI ZQ (flightOf ps)) := hC.cell 6
 have c7 : w.cell? ⟨b, 7, none⟩ = some (ZI ZQ (elicOf ps)) := hC.cell 7
 have HP := hide hp
 have HM := hide hm2
 clear hp hm2
 go_enter Tryz.func68, Tryz.ntmps68
 go_wp2_with (first | (go_at_call 99; refine (none_no b room _ (hC.cell 0) hr1).mono ?_; rintro e1 w1 ⟨rfl, rfl⟩))
 go_end0
 refine ⟨rfl, ⟨m, 0, ring, [], ((((hC.setFrom (k := 0) rfl).setLong (k := 0) rfl).setMany (k := 0) rfl).setFlight 0).setElic 0, hR.none_ (by have := HM.out; omega), ⟨by simp, by simp, by simp, by simp, by simp [liveOf], hG.last⟩, rfl⟩, ?_⟩
 exact (((((Only.refl [b] w).setCell (.inl (by simp)) _).setCell (.inl (by simp)) _).setCell (.inl (by simp)) _).setCell (.inl (by simp)) _).setCell (.inl (by simp)) _

set_option maxHeartbeats 1000000 in
theorem last_any (b rb room : Nat) (last : Int) (ps : List Pk) (w : World) (hL : IsLog w b rb room last ps) :
  Calls Tryz.prog 56 #[.pointer (some ⟨b, 0, none⟩)] w fun e w' => e = .returned (ZI ZQ last) ∧ w = w' := by
 obtain ⟨m, fr, ring, q, hC, hR, hG, hp⟩ := hL
 have hr1 := hC.r1
 have c1 : w.cell? ⟨b, 1, none⟩ = some (ZI ZQ last) := hC.cell 1
 clear hp
 go_enter Tryz.func56, Tryz.ntmps56
 go_wp2_with (first | (go_at_call 99; refine (none_no b room _ (hC.cell 0) hr1).mono ?_; rintro e1 w1 ⟨rfl, rfl⟩))
 go_ret
 exact ⟨rfl, rfl⟩

theorem flight_lit (x : Int) (a : Addr) (b : Nat) (w : World) (ha : w.cell? a = some (.pointer (some ⟨b, 0, none⟩))) (hx : w.cell? ⟨b, 6, none⟩ = some (ZI ZQ x)) :
  Calls Tryz.prog 119 #[.pointer (some a)] w fun e w' => e = .returned (ZI ZQ x) ∧ w = w' := by
 go_enter Tryz.func119, Tryz.ntmps119
 go_wp2
 go_ret
 exact ⟨rfl, rfl⟩
theorem flight_total (x : Int) (a : Addr) (b room : Nat) (w : World) (ha : w.cell? a = some (.pointer (some ⟨b, 0, none⟩))) (h0 : w.cell? ⟨b, 0, none⟩ = some (ZI ZQ room)) (h1 : 1 ≤ room) (hx : w.cell? ⟨b, 6, none⟩ = some (ZI ZQ x)) :
  Calls Tryz.prog 118 #[.pointer (some ⟨b, 0, none⟩), .func (.func 119) #[] #[.pointer (some a)]] w fun e w' => e = .returned (ZI ZQ x) ∧ w = w' := by
 go_enter Tryz.func118, Tryz.ntmps118
 go_wp2_with (first | (go_at_call 99; refine (none_no b room _ h0 h1).mono ?_; rintro e1 w1 ⟨rfl, rfl⟩) | (go_at_call 119; refine (flight_lit x a b _ ha hx).mono ?_; rintro e1 w1 ⟨rfl, rfl⟩))
 go_ret
 exact ⟨rfl, rfl⟩
set_option maxHeartbeats 1000000 in
theorem flight_any (b rb room : Nat) (last : Int) (ps : List Pk) (w : World) (hL : IsLog w b rb room last ps) :
  Calls Tryz.prog 65 #[.pointer (some ⟨b, 0, none⟩)] w fun e w' => e = .returned (ZI ZQ (flightOf ps)) ∧ Below w.heap.size w w' := by
 obtain ⟨m, fr, ring, q, hC, hR, hG, hp⟩ := hL
 have hr1 := hC.r1
 have hC1 := hC.alloc (.cells #[.pointer (some ⟨b, 0, none⟩)] 75)
 have HS := hide (flight_total _ ⟨w.heap.size, 0, none⟩ b room _ ((Blk.new w 75 #[.pointer (some ⟨b, 0, none⟩)]).cell 0) (hC1.cell 0) hr1 (hC1.cell 6))
 clear hp
 go_enter Tryz.func65, Tryz.ntmps65
 go_wp2_with (first | (go_at_call 118; refine HS.out.mono ?_; rintro e1 w1 ⟨rfl, rfl⟩))
 go_ret
 exact ⟨rfl, (Below.refl _ _).alloc (Nat.le_refl _) _⟩

theorem elic_lit (x : Int) (a : Addr) (b : Nat) (w : World) (ha : w.cell? a = some (.pointer (some ⟨b, 0, none⟩))) (hx : w.cell? ⟨b, 7, none⟩ = some (ZI ZQ x)) :
  Calls Tryz.prog 120 #[.pointer (some a)] w fun e w' => e = .returned (ZI ZQ x) ∧ w = w' := by
 go_enter Tryz.func120, Tryz.ntmps120
 go_wp2
 go_ret
 exact ⟨rfl, rfl⟩
theorem elic_total (x : Int) (a : Addr) (b room : Nat) (w : World) (ha : w.cell? a = some (.pointer (some ⟨b, 0, none⟩))) (h0 : w.cell? ⟨b, 0, none⟩ = some (ZI ZQ room)) (h1 : 1 ≤ room) (hx : w.cell? ⟨b, 7, none⟩ = some (ZI ZQ x)) :
  Calls Tryz.prog 118 #[.pointer (some ⟨b, 0, none⟩), .func (.func 120) #[] #[.pointer (some a)]] w fun e w' => e = .returned (ZI ZQ x) ∧ w = w' := by
 go_enter Tryz.func118, Tryz.ntmps118
 go_wp2_with (first | (go_at_call 99; refine (none_no b room _ h0 h1).mono ?_; rintro e1 w1 ⟨rfl, rfl⟩) | (go_at_call 120; refine (elic_lit x a b _ ha hx).mono ?_; rintro e1 w1 ⟨rfl, rfl⟩))
 go_ret
 exact ⟨rfl, rfl⟩
set_option maxHeartbeats 1000000 in
theorem elic_any (b rb room : Nat) (last : Int) (ps : List Pk) (w : World) (hL : IsLog w b rb room last ps) :
  Calls Tryz.prog 67 #[.pointer (some ⟨b, 0, none⟩)] w fun e w' => e = .returned (ZI ZQ (elicOf ps)) ∧ Below w.heap.size w w' := by
 obtain ⟨m, fr, ring, q, hC, hR, hG, hp⟩ := hL
 have hr1 := hC.r1
 have hC1 := hC.alloc (.cells #[.pointer (some ⟨b, 0, none⟩)] 75)
 have HS := hide (elic_total _ ⟨w.heap.size, 0, none⟩ b room _ ((Blk.new w 75 #[.pointer (some ⟨b, 0, none⟩)]).cell 0) (hC1.cell 0) hr1 (hC1.cell 7))
 clear hp
 go_enter Tryz.func67, Tryz.ntmps67
 go_wp2_with (first | (go_at_call 118; refine HS.out.mono ?_; rintro e1 w1 ⟨rfl, rfl⟩))
 go_ret
 exact ⟨rfl, (Below.refl _ _).alloc (Nat.le_refl _) _⟩

/-- What New leaves. -/
def NewPost (w : World) (room : Nat) (e : Ending) (w' : World) : Prop :=
 ∃ b rb, e = .returned (.tuple #[.pointer (some ⟨b, 0, none⟩), ZI ZQ 0]) ∧ IsLog w' b rb room (-1) [] ∧ w.heap.size ≤ b ∧ w.heap.size ≤ rb ∧ Below w.heap.size w w'

set_option maxHeartbeats 1000000 in
theorem new_ok (room : Nat) (w : World) (h1 : 1 ≤ room) (h2 : room ≤ 256) :
  Calls Tryz.prog 43 #[ZI ZQ room] w (NewPost w room) := by
 obtain ⟨i0, hi, hz0, hz1, hz2⟩ := info_parts slot_info
 have hmk := fun W => make_rows (P := Tryz.prog) 117 137 i0 _ 7 40 Tryz.underlying117 hi hz0 hz1 hz2 (2 * room) (by omega) (by omega) W
 rw [show ((2 * room : Nat) : Int) = 2 * (room : Int) by omega] at hmk
 clear hi hz0 hz1 hz2
 go_enter Tryz.func43, Tryz.ntmps43
 go_wp2
 go_ret2
 refine ⟨w.heap.size + 1, w.heap.size, rfl, ⟨2 * room, 0, List.replicate (2 * room) zeroSl, [], ⟨2 * room, [], ?_, ?_, rfl, h1, h2⟩, ⟨by simp, by simp, by omega, by simp⟩, ⟨by simp, by simp, by simp, by simp, by simp [liveOf], by omega⟩, rfl⟩, by omega, Nat.le_refl _, ((Below.refl _ _).alloc (Nat.le_refl _) _).alloc (by simp) _⟩
 ·have := Blk.new (w.alloc (.cells (madeCells (Value.agg #[ZI ZQ 0, ZI ZQ 0, ZI ZQ 0, .bool false, .bool false, .bool false, .bool false]).cells (2 * room * 7)) 137)) 119 #[ZI ZQ room, ZI ZQ (-1), .slice (some ⟨w.heap.size, 0, none⟩) (2 * room) (2 * room), ZI ZQ 0, ZI ZQ 0, ZI ZQ 0, ZI ZQ 0, ZI ZQ 0]
  rw [World.size_alloc] at this
  exact this
 ·rw [List.append_nil, ← made_slots]
  exact (Blk.new _ _ _).alloc _

set_option maxHeartbeats 1000000 in
theorem new_no (room : Int) (w : World) (h : room < 1 ∨ 256 < room) :
  Calls Tryz.prog 43 #[ZI ZQ room] w fun e w' => e = .returned (.tuple #[.pointer none, ZI ZQ 2]) ∧ w = w' := by
 by_cases h1 : room < 1
 ·go_enter Tryz.func43, Tryz.ntmps43
  go_wp2
  go_ret2
  exact ⟨rfl, rfl⟩
 ·have h2 : 256 < room := by omega
  have h3 : 1 ≤ room := by omega
  clear h
  go_enter Tryz.func43, Tryz.ntmps43
  go_wp2
  go_ret2
  exact ⟨rfl, rfl⟩
end Go.Proofs.YtgicljeedegncaaGreat
