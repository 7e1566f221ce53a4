/-
 4 texts in one (SentW3, SentW4, SentPack, SentPut).
-/
import Derived.Test.YtgicljeedegncaaGreatTqSentPlain
import Derived.RegionTactic
import Derived.ChangeAlike
import Derived.BigRegion
import Derived.Deep.RegionHeld3
import Derived.Laws.MakeOwn
namespace Go.Proofs.YtgicljeedegncaaGreat
open List renaming setIfInBounds_toArray → ZD, getElem?_toArray → ZG
open Go.Value renaming int → ZI
open Go.IntKind renaming i64 → ZQ
open Go.RowKit

set_option maxHeartbeats 1000000 in
theorem count_any {w : World} {b rb m room : Nat} {last : Int} {fr long many : Nat} {fl el : Int} {ring : List Sl} (hL : LogC w b rb m room last fr long many fl el ring)
  (n t s : Int) (e f c : Bool) (by_ : Int) (many' : Nat) (hm : (many : Int) + by_ = (many' : Int)) (hby : -1 ≤ by_) (hby2 : by_ ≤ 1) (hm1 : many' ≤ 1000) (hm0 : many ≤ 1000)
  (hfl : 0 ≤ fl) (hfl2 : fl ≤ 1000000000) (hel : 0 ≤ el) (hel2 : el ≤ 1000) (hp1 : -65535 ≤ by_ * s) (hp2 : by_ * s ≤ 65535) :
  Calls Tryz.prog 155 #[.pointer (some ⟨b, 0, none⟩), .agg #[ZI ZQ n, ZI ZQ t, ZI ZQ s, .bool e, .bool f, .bool c], ZI ZQ by_] w fun e' w' => e' = .returned (.tuple #[]) ∧
   LogC w' b rb m room last fr long many' (totF f fl (by_ * s)) (totE f e el by_) ring ∧ Only [b] w w' := by
 have hne := hL.ne
 have hne' := hL.ne.symm
 have hb := hL.blk.lt
 have hrb := hL.rng.lt
 have h5 : w.cell? ⟨b, 5, none⟩ = some (ZI ZQ many) := hL.cell 5
 have h6 : w.cell? ⟨b, 6, none⟩ = some (ZI ZQ fl) := hL.cell 6
 have h7 : w.cell? ⟨b, 7, none⟩ = some (ZI ZQ el) := hL.cell 7
 have hf := hL.blk.frozen
 have HM := hide hm
 have hm2 : 0 ≤ (many : Int) + by_ := by omega
 clear hm
 cases f
 ·go_enter Tryz.func155, Tryz.ntmps155
  go_wp2
  refine bodyPost_ret (results_none rfl _ _ _) rfl ?_
  exact ⟨rfl, ((hL.setMany HM.out).alloc _), ((Only.refl _ _).setCell (.inl (by simp)) _).alloc _⟩
 ·cases e
  ·go_enter Tryz.func155, Tryz.ntmps155
   go_wp2
   go_region
   all_goals go_wp2
   all_goals go_end0
   all_goals exact ⟨rfl, (((hL.setMany HM.out).setFlight _).alloc _).drew, ((((Only.refl _ _).setCell (.inl (by simp)) _).setCell (.inl (by simp)) _).alloc _).drew⟩
  ·go_enter Tryz.func155, Tryz.ntmps155
   go_wp2
   go_region
   all_goals go_wp2
   all_goals go_end0
   all_goals exact ⟨rfl, ((((hL.setMany HM.out).setFlight _).setElic _).alloc _).drew, (((((Only.refl _ _).setCell (.inl (by simp)) _).setCell (.inl (by simp)) _).setCell (.inl (by simp)) _).alloc _).drew⟩

theorem more_any {w : World} {b rb m room : Nat} {last : Int} {fr long many : Nat} {fl el : Int} {ring : List Sl} (hL : LogC w b rb m room last fr long many fl el ring)
  (n t s : Int) (e f c : Bool) (hm0 : many ≤ 512)
  (hfl : 0 ≤ fl) (hfl2 : fl ≤ 1000000000) (hel : 0 ≤ el) (hel2 : el ≤ 1000) (hp1 : 1 ≤ s) (hp2 : s ≤ 65535) :
  Calls Tryz.prog 111 #[.pointer (some ⟨b, 0, none⟩), .agg #[ZI ZQ n, ZI ZQ t, ZI ZQ s, .bool e, .bool f, .bool c]] w fun e' w' => e' = .returned (.tuple #[]) ∧
   LogC w' b rb m room last fr long (many + 1) (totF f fl s) (totE f e el 1) ring ∧ Only [b] w w' := by
 have hc := count_any (hL.alloc (.cells #[ZI ZQ n, ZI ZQ t, ZI ZQ s, .bool e, .bool f, .bool c] 40)) n t s e f c 1 (many + 1) (by omega) (by omega) (by omega) (by omega) (by omega) hfl hfl2 hel hel2 (by omega) (by omega)
 rw [show (1 : Int) * s = s by omega] at hc
 have HC := hide hc
 clear hc
 go_enter Tryz.func111, Tryz.ntmps111
 go_wp2_with (go_at_call 155; refine HC.out.mono ?_; rintro e1 w1 ⟨rfl, hL1, hO1⟩)
 go_end0
 exact ⟨rfl, hL1, ((Only.refl _ _).alloc _).trans hO1 (by simp)⟩

theorem less_any {w : World} {b rb m room : Nat} {last : Int} {fr long many : Nat} {fl el : Int} {ring : List Sl} (hL : LogC w b rb m room last fr long (many + 1) fl el ring)
  (n t s : Int) (e f c : Bool) (hm0 : many ≤ 512)
  (hfl : 0 ≤ fl) (hfl2 : fl ≤ 1000000000) (hel : 0 ≤ el) (hel2 : el ≤ 1000) (hp1 : 1 ≤ s) (hp2 : s ≤ 65535) :
  Calls Tryz.prog 148 #[.pointer (some ⟨b, 0, none⟩), .agg #[ZI ZQ n, ZI ZQ t, ZI ZQ s, .bool e, .bool f, .bool c]] w fun e' w' => e' = .returned (.tuple #[]) ∧
   LogC w' b rb m room last fr long many (totF f fl (-s)) (totE f e el (-1)) ring ∧ Only [b] w w' := by
 have hc := count_any (hL.alloc (.cells #[ZI ZQ n, ZI ZQ t, ZI ZQ s, .bool e, .bool f, .bool c] 40)) n t s e f c (-1) many (by omega) (by omega) (by omega) (by omega) (by omega) hfl hfl2 hel hel2 (by omega) (by omega)
 rw [show (-1 : Int) * s = -s by omega] at hc
 have HC := hide hc
 clear hc
 go_enter Tryz.func148, Tryz.ntmps148
 go_wp2_with (go_at_call 155; refine HC.out.mono ?_; rintro e1 w1 ⟨rfl, hL1, hO1⟩)
 go_end0
 exact ⟨rfl, hL1, ((Only.refl _ _).alloc _).trans hO1 (by simp)⟩

/-- The closure of 'may'. -/
theorem in_yes (n lo hi : Int) (w : World) (h1 : lo ≤ n) (h2 : n ≤ hi) :
  Calls Tryz.prog 154 #[ZI ZQ n, ZI ZQ lo, ZI ZQ hi] w fun e w' => e = .returned (.bool true) ∧ w = w' := by
 go_enter Tryz.func154, Tryz.ntmps154
 go_wp2
 go_ret
 exact ⟨rfl, rfl⟩
theorem in_no (n lo hi : Int) (w : World) (h : n < lo ∨ hi < n) :
  Calls Tryz.prog 154 #[ZI ZQ n, ZI ZQ lo, ZI ZQ hi] w fun e w' => e = .returned (.bool false) ∧ w = w' := by
 by_cases h1 : n < lo
 ·go_enter Tryz.func154, Tryz.ntmps154
  go_wp2
  go_ret
  exact ⟨rfl, rfl⟩
 ·have h2 : hi < n := by omega
  have h3 : lo ≤ n := by omega
  have h4 : decide (n ≤ hi) = false := by simp; omega
  clear h
  go_enter Tryz.func154, Tryz.ntmps154
  go_wp2
  go_ret
  exact ⟨rfl, rfl⟩

set_option maxHeartbeats 1000000 in
theorem may_yes (n t s : Int) (e f c : Bool) (w : World) (h : (Pk.mk n t s e f c).may) :
  Calls Tryz.prog 108 #[.agg #[ZI ZQ n, ZI ZQ t, ZI ZQ s, .bool e, .bool f, .bool c]] w fun e' w' => e' = .returned (.bool true) ∧ Below w.heap.size w w' := by
 obtain ⟨h1, h2, h3, h4, h5, h6⟩ := h
 simp only at h1 h2 h3 h4 h5 h6
 go_enter Tryz.func108, Tryz.ntmps108
 go_wp2_with (go_at_call 154; refine (in_yes _ _ _ _ (by omega) (by omega)).mono ?_; rintro e1 w1 ⟨rfl, rfl⟩)
 go_ret
 exact ⟨rfl, (Below.refl _ _).alloc (Nat.le_refl _) _⟩

set_option maxHeartbeats 1000000 in
theorem may_no (n t s : Int) (e f c : Bool) (w : World) (h : ¬ (Pk.mk n t s e f c).may) :
  Calls Tryz.prog 108 #[.agg #[ZI ZQ n, ZI ZQ t, ZI ZQ s, .bool e, .bool f, .bool c]] w fun e' w' => e' = .returned (.bool false) ∧ Below w.heap.size w w' := by
 unfold Pk.may at h
 simp only at h
 by_cases h1 : 0 ≤ n ∧ n ≤ 9007199254740991
 ·obtain ⟨h1, h2⟩ := h1
  by_cases h3 : 0 ≤ t ∧ t ≤ 9007199254740991
  ·obtain ⟨h3, h4⟩ := h3
   have h5 : s < 1 ∨ 65535 < s := by omega
   clear h
   go_enter Tryz.func108, Tryz.ntmps108
   go_wp2_with (go_at_call 154; first | (refine (in_yes _ _ _ _ (by omega) (by omega)).mono ?_; rintro e1 w1 ⟨rfl, rfl⟩) | (refine (in_no _ _ _ _ (by omega)).mono ?_; rintro e1 w1 ⟨rfl, rfl⟩))
   go_ret
   exact ⟨rfl, (Below.refl _ _).alloc (Nat.le_refl _) _⟩
  ·have h5 : t < 0 ∨ 9007199254740991 < t := by omega
   clear h h3
   go_enter Tryz.func108, Tryz.ntmps108
   go_wp2_with (go_at_call 154; first | (refine (in_yes _ _ _ _ (by omega) (by omega)).mono ?_; rintro e1 w1 ⟨rfl, rfl⟩) | (refine (in_no _ _ _ _ (by omega)).mono ?_; rintro e1 w1 ⟨rfl, rfl⟩))
   go_ret
   exact ⟨rfl, (Below.refl _ _).alloc (Nat.le_refl _) _⟩
 ·have h5 : n < 0 ∨ 9007199254740991 < n := by omega
  clear h h1
  go_enter Tryz.func108, Tryz.ntmps108
  go_wp2_with (go_at_call 154; refine (in_no _ _ _ _ (by omega)).mono ?_; rintro e1 w1 ⟨rfl, rfl⟩)
  go_ret
  exact ⟨rfl, (Below.refl _ _).alloc (Nat.le_refl _) _⟩
end Go.Proofs.YtgicljeedegncaaGreat

namespace Go.Proofs.YtgicljeedegncaaGreat
open List renaming setIfInBounds_toArray → ZD, getElem?_toArray → ZG
open Go.Value renaming int → ZI
open Go.IntKind renaming i64 → ZQ
open Go.RowKit

/-- A log of packets ps, as its callers see it: its block b, its ring's block rb. -/
def IsLog (w : World) (b rb room : Nat) (last : Int) (ps : List Pk) : Prop :=
 ∃ (m fr : Nat) (ring q : List Sl), LogC w b rb m room last fr q.length ps.length (flightOf ps) (elicOf ps) ring ∧ Ring m fr ring q ∧ Good room last q ∧ ps = liveOf q

theorem flight_bounds : ∀ (ps : List Pk), (∀ p ∈ ps, p.may) → 0 ≤ flightOf ps ∧ flightOf ps ≤ 65535 * ps.length
 | [], _ => by simp [flightOf]
 | p :: ps, h => by
  obtain ⟨h1, h2⟩ := flight_bounds ps (fun x hx => h x (by simp [hx]))
  obtain ⟨_, _, _, _, h3, h4⟩ := h p (by simp)
  simp only [flightOf, List.length_cons]
  split <;> omega
theorem elic_bounds : ∀ (ps : List Pk), 0 ≤ elicOf ps ∧ elicOf ps ≤ ps.length
 | [] => by simp [elicOf]
 | p :: ps => by
  obtain ⟨h1, h2⟩ := elic_bounds ps
  simp only [elicOf, List.length_cons]
  split <;> omega
theorem live_may {q : List Sl} (h : ∀ s ∈ q, s.1.may) : ∀ p ∈ liveOf q, p.may := by
 intro p hp
 obtain ⟨s, hs, rfl⟩ := List.mem_map.1 hp
 exact h s (List.mem_filter.1 hs).1

theorem live_push (q : List Sl) (p : Pk) : liveOf (q ++ [(p, true)]) = liveOf q ++ [p] := by simp [liveOf]
theorem flight_push (q : List Pk) (p : Pk) : flightOf (q ++ [p]) = totF p.fl (flightOf q) p.size := by
 rw [flightOf_append]; unfold totF; simp only [flightOf]; split <;> omega
theorem elic_push (q : List Pk) (p : Pk) : elicOf (q ++ [p]) = totE p.fl p.el (elicOf q) 1 := by
 rw [elicOf_append]; unfold totE; cases h1 : p.fl <;> cases h2 : p.el <;> simp [elicOf, h1, h2]
theorem good_push {room : Nat} {last : Int} {q : List Sl} {p : Pk} (h : Good room last q) (hp : p.may) (hl : last < p.num) (hr : (liveOf q).length < room) : Good room p.num (q ++ [(p, true)]) := by
 refine ⟨?_, ?_, ?_, ?_, ?_, ?_⟩
 ·rw [List.pairwise_append]
  refine ⟨h.sorted, by simp, fun a ha b hb => ?_⟩
  have := h.le a ha
  simp at hb
  subst hb
  simp only
  omega
 ·intro s hs
  rcases List.mem_append.1 hs with h1 | h1
  ·exact h.may s h1
  ·simp at h1; subst h1; exact hp
 ·intro s hs
  rcases List.mem_append.1 hs with h1 | h1
  ·have := h.le s h1; omega
  ·simp at h1; subst h1; simp
 ·intro s hs
  cases q with
  | nil => simp at hs; subst hs; rfl
  | cons x q => exact h.head s (by simpa using hs)
 ·rw [live_push]; simp; omega
 ·obtain ⟨h1, h2, _⟩ := hp
  omega

set_option maxHeartbeats 1000000 in
theorem put_no (b rb room : Nat) (last n t s : Int) (e f c : Bool) (ps : List Pk) (w : World) (hL : IsLog w b rb room last ps) (h : ¬ (Pk.mk n t s e f c).may) :
  Calls Tryz.prog 62 #[.pointer (some ⟨b, 0, none⟩), .agg #[ZI ZQ n, ZI ZQ t, ZI ZQ s, .bool e, .bool f, .bool c]] w fun e' w' => e' = .returned (ZI ZQ 2) ∧ Below w.heap.size w w' := by
 obtain ⟨m, fr, ring, q, hC, hR, hG, hp⟩ := hL
 have hr1 := hC.r1
 have hb := hC.blk.lt
 have h0 : w.cell? ⟨b, 0, none⟩ = some (ZI ZQ room) := hC.cell 0
 have HP := hide hp
 have HN := hide h
 clear hp h
 go_enter Tryz.func62, Tryz.ntmps62
 go_wp2_with (first | (go_at_call 99; refine (none_no b room _ ((hC.alloc _).cell 0) hr1).mono ?_; rintro e1 w1 ⟨rfl, rfl⟩) | (go_at_call 108; refine (may_no _ _ _ _ _ _ _ HN.out).mono ?_; rintro e1 w1 ⟨rfl, hb1⟩))
 go_ret
 exact ⟨rfl, ((Below.refl _ _).alloc (Nat.le_refl _) _).trans (hb1.mono (by simp))⟩

set_option maxHeartbeats 1000000 in
theorem put_low (b rb room : Nat) (last n t s : Int) (e f c : Bool) (ps : List Pk) (w : World) (hL : IsLog w b rb room last ps) (h : (Pk.mk n t s e f c).may) (hn : n ≤ last) :
  Calls Tryz.prog 62 #[.pointer (some ⟨b, 0, none⟩), .agg #[ZI ZQ n, ZI ZQ t, ZI ZQ s, .bool e, .bool f, .bool c]] w fun e' w' => e' = .returned (ZI ZQ 60) ∧ Below w.heap.size w w' := by
 obtain ⟨m, fr, ring, q, hC, hR, hG, hp⟩ := hL
 have hr1 := hC.r1
 have hb := hC.blk.lt
 have h0 : w.cell? ⟨b, 0, none⟩ = some (ZI ZQ room) := hC.cell 0
 have h1 : w.cell? ⟨b, 1, none⟩ = some (ZI ZQ last) := hC.cell 1
 have HP := hide hp
 have HN := hide h
 clear hp h
 go_enter Tryz.func62, Tryz.ntmps62
 go_wp2_with (first | (go_at_call 99; refine (none_no b room _ ((hC.alloc _).cell 0) hr1).mono ?_; rintro e1 w1 ⟨rfl, rfl⟩) | (go_at_call 108; refine (may_yes _ _ _ _ _ _ _ HN.out).mono ?_; rintro e1 w1 ⟨rfl, hb1⟩; obtain ⟨hc1, hf1⟩ := bcell hb1))
 go_quiet (fail)
 go_wp2
 go_ret
 exact ⟨rfl, below_drewN (((Below.refl _ _).alloc (Nat.le_refl _) _).trans (hb1.mono (by simp))) _⟩

set_option maxHeartbeats 1000000 in
theorem put_full (b rb room : Nat) (last n t s : Int) (e f c : Bool) (ps : List Pk) (w : World) (hL : IsLog w b rb room last ps) (h : (Pk.mk n t s e f c).may) (hn : last < n) (hfull : ps.length = room) :
  Calls Tryz.prog 62 #[.pointer (some ⟨b, 0, none⟩), .agg #[ZI ZQ n, ZI ZQ t, ZI ZQ s, .bool e, .bool f, .bool c]] w fun e' w' => e' = .returned (ZI ZQ 5) ∧ Below w.heap.size w w' := by
 obtain ⟨m, fr, ring, q, hC, hR, hG, hp⟩ := hL
 have hr1 := hC.r1
 have hb := hC.blk.lt
 have h0 : w.cell? ⟨b, 0, none⟩ = some (ZI ZQ room) := hC.cell 0
 have h1 : w.cell? ⟨b, 1, none⟩ = some (ZI ZQ last) := hC.cell 1
 have h5 : w.cell? ⟨b, 5, none⟩ = some (ZI ZQ ps.length) := hC.cell 5
 rw [hfull] at h5
 have HP := hide hp
 have HN := hide h
 have HF := hide hfull
 clear hp h hfull
 go_enter Tryz.func62, Tryz.ntmps62
 go_wp2_with (first | (go_at_call 99; refine (none_no b room _ ((hC.alloc _).cell 0) hr1).mono ?_; rintro e1 w1 ⟨rfl, rfl⟩) | (go_at_call 108; refine (may_yes _ _ _ _ _ _ _ HN.out).mono ?_; rintro e1 w1 ⟨rfl, hb1⟩; obtain ⟨hc1, hf1⟩ := bcell hb1))
 go_quiet (fail)
 go_wp2
 go_quiet (fail)
 go_wp2
 go_ret
 exact ⟨rfl, below_drewN (below_drewN (((Below.refl _ _).alloc (Nat.le_refl _) _).trans (hb1.mono (by simp))) _) _⟩
end Go.Proofs.YtgicljeedegncaaGreat

namespace Go.Proofs.YtgicljeedegncaaGreat
open List renaming setIfInBounds_toArray → ZD, getElem?_toArray → ZG
open Go.Value renaming int → ZI
open Go.IntKind renaming i64 → ZQ
open Go.RowKit

def zeroSl : Sl := (Pk.zero, false)
theorem made_slots (m : Nat) : madeCells #[ZI ZQ 0, ZI ZQ 0, ZI ZQ 0, .bool false, .bool false, .bool false, .bool false] (m * 7) = ((List.replicate m zeroSl).flatMap slCells).toArray := by
 refine Array.ext_getElem? fun i => ?_
 have hR : (((List.replicate m zeroSl).flatMap slCells).toArray)[i]? = ((List.replicate m zeroSl).flatMap slCells)[i]? := ZG
 rw [hR]
 by_cases hi : i < m * 7
 ·have e : i = (i / 7) * 7 + i % 7 := by omega
  have hc := flat_cell slCells 7 slCells_length (List.replicate m zeroSl) (i / 7) (i % 7) (by omega)
  rw [← e, List.getElem?_replicate, if_pos (by omega)] at hc
  rw [hc]
  have h7 : i % 7 = 0 ∨ i % 7 = 1 ∨ i % 7 = 2 ∨ i % 7 = 3 ∨ i % 7 = 4 ∨ i % 7 = 5 ∨ i % 7 = 6 := by omega
  rcases h7 with h | h | h | h | h | h | h <;> simp [madeCells, hi, h, slCells, zeroSl, Pk.zero]
 ·rw [Array.getElem?_eq_none (by rw [size_madeCells]; omega), List.getElem?_eq_none (by rw [flat_length slCells 7 slCells_length, List.length_replicate]; omega)]

/-- What is put so far, and places that are not used yet. -/
def packed (m : Nat) (q : List Sl) (k : Nat) : List Sl := (q.take k).filter (·.2) ++ List.replicate (m - ((q.take k).filter (·.2)).length) zeroSl
theorem packed_length {m : Nat} {q : List Sl} (k : Nat) (h : q.length ≤ m) : (packed m q k).length = m := by
 have : ((q.take k).filter (·.2)).length ≤ (q.take k).length := List.length_filter_le _ _
 have : (q.take k).length ≤ q.length := List.length_take_le' _ _
 simp only [packed, List.length_append, List.length_replicate]
 omega
theorem take_skip {q : List Sl} {k : Nat} {s : Sl} (h : q[k]? = some s) (hs : s.2 = false) : (q.take (k + 1)).filter (·.2) = (q.take k).filter (·.2) := by
 rw [List.take_add_one, h]; simp [hs]
theorem take_keep {q : List Sl} {k : Nat} {s : Sl} (h : q[k]? = some s) (hs : s.2 = true) : (q.take (k + 1)).filter (·.2) = (q.take k).filter (·.2) ++ [s] := by
 rw [List.take_add_one, h]; simp [hs]
theorem packed_skip {m : Nat} {q : List Sl} {k : Nat} {s : Sl} (h : q[k]? = some s) (hs : s.2 = false) : packed m q (k + 1) = packed m q k := by
 unfold packed; rw [take_skip h hs]
theorem packed_keep {m : Nat} {q : List Sl} {k : Nat} {s : Sl} (hm : q.length ≤ m) (h : q[k]? = some s) (hs : s.2 = true) :
  packed m q (k + 1) = (packed m q k).set ((q.take k).filter (·.2)).length s := by
 have hk : k < q.length := (List.getElem?_eq_some_iff.1 h).1
 have h1 : ((q.take k).filter (·.2)).length ≤ (q.take k).length := List.length_filter_le _ _
 have h2 : (q.take k).length ≤ k := List.length_take_le _ _
 unfold packed
 rw [take_keep h hs, List.set_append_right _ _ (Nat.le_refl _), Nat.sub_self, List.append_assoc]
 congr 1
 rw [List.length_append, List.length_singleton]
 obtain ⟨d, hd⟩ : ∃ d, m - ((q.take k).filter (·.2)).length = d + 1 := ⟨m - ((q.take k).filter (·.2)).length - 1, by omega⟩
 rw [show m - (((q.take k).filter (·.2)).length + 1) = d by omega, hd, List.replicate_succ]
 simp

/-- Seven stores lay a place whole. -/
theorem blk_slot {w : World} {g t k : Nat} {r : List Sl} {rest : List Value} {s : Sl} (h : Blk w g t (r.flatMap slCells ++ rest).toArray) (hk : k < r.length) :
  Blk (((((((w.setCell ⟨g, k * 7, none⟩ (ZI ZQ s.1.num)).setCell ⟨g, k * 7 + 1, none⟩ (ZI ZQ s.1.time)).setCell ⟨g, k * 7 + 2, none⟩ (ZI ZQ s.1.size)).setCell ⟨g, k * 7 + 3, none⟩ (.bool s.1.el)).setCell ⟨g, k * 7 + 4, none⟩ (.bool s.1.fl)).setCell ⟨g, k * 7 + 5, none⟩ (.bool s.1.ect)).setCell ⟨g, k * 7 + 6, none⟩ (.bool s.2)) g t ((r.set k s).flatMap slCells ++ rest).toArray := by
 have hl : ∀ r : List Sl, (r.flatMap slCells).length = r.length * 7 := flat_length slCells 7 slCells_length
 obtain ⟨⟨n, ti, si, e, f, c⟩, th⟩ := s
 have hr : r[k]? = some r[k] := List.getElem?_eq_getElem hk
 obtain ⟨⟨⟨n0, t0, s0, e0, f0, c0⟩, h0⟩, hx⟩ : ∃ x, r[k] = x := ⟨_, rfl⟩
 rw [hx] at hr
 refine Blk.eq (((((((h.set _ _).set _ _).set _ _).set _ _).set _ _).set _ _).set _ _) ?_
 simp only [ZD]
 congr 1
 have hs : ∀ (l : List Sl) (j : Nat) (u : Value), l.length = r.length → j < 7 → (l.flatMap slCells ++ rest).set (k * 7 + j) u = (l.flatMap slCells).set (k * 7 + j) u ++ rest := fun l j u h1 h2 =>
  List.set_append_left _ _ (by rw [hl]; omega)
 have E0 := flat_set slCells 7 slCells_length r k 0 ((⟨n0, t0, s0, e0, f0, c0⟩, h0) : Sl) (⟨n, t0, s0, e0, f0, c0⟩, h0) (ZI ZQ n) (by omega) hr rfl
 rw [Nat.add_zero] at E0
 have S0 := hs r 0 (ZI ZQ n) rfl (by omega)
 rw [Nat.add_zero] at S0
 rw [S0, E0]
 rw [hs _ 1 _ (by simp) (by omega), flat_set slCells 7 slCells_length _ k 1 ((⟨n, t0, s0, e0, f0, c0⟩, h0) : Sl) (⟨n, ti, s0, e0, f0, c0⟩, h0) _ (by omega) (by rw [List.getElem?_set_self hk]) rfl, List.set_set]
 rw [hs _ 2 _ (by simp) (by omega), flat_set slCells 7 slCells_length _ k 2 ((⟨n, ti, s0, e0, f0, c0⟩, h0) : Sl) (⟨n, ti, si, e0, f0, c0⟩, h0) _ (by omega) (by rw [List.getElem?_set_self hk]) rfl, List.set_set]
 rw [hs _ 3 _ (by simp) (by omega), flat_set slCells 7 slCells_length _ k 3 ((⟨n, ti, si, e0, f0, c0⟩, h0) : Sl) (⟨n, ti, si, e, f0, c0⟩, h0) _ (by omega) (by rw [List.getElem?_set_self hk]) rfl, List.set_set]
 rw [hs _ 4 _ (by simp) (by omega), flat_set slCells 7 slCells_length _ k 4 ((⟨n, ti, si, e, f0, c0⟩, h0) : Sl) (⟨n, ti, si, e, f, c0⟩, h0) _ (by omega) (by rw [List.getElem?_set_self hk]) rfl, List.set_set]
 rw [hs _ 5 _ (by simp) (by omega), flat_set slCells 7 slCells_length _ k 5 ((⟨n, ti, si, e, f, c0⟩, h0) : Sl) (⟨n, ti, si, e, f, c⟩, h0) _ (by omega) (by rw [List.getElem?_set_self hk]) rfl, List.set_set]
 rw [hs _ 6 _ (by simp) (by omega), flat_set slCells 7 slCells_length _ k 6 ((⟨n, ti, si, e, f, c⟩, h0) : Sl) (⟨n, ti, si, e, f, c⟩, th) _ (by omega) (by rw [List.getElem?_set_self hk]) rfl, List.set_set]

theorem LogC.setSlot {w : World} {b rb m room : Nat} {last : Int} {fr long many : Nat} {fl el : Int} {ring : List Sl} (h : LogC w b rb m room last fr long many fl el ring) {k : Nat} (hk : k < ring.length) (s : Sl) :
  LogC (((((((w.setCell ⟨rb, k * 7, none⟩ (ZI ZQ s.1.num)).setCell ⟨rb, k * 7 + 1, none⟩ (ZI ZQ s.1.time)).setCell ⟨rb, k * 7 + 2, none⟩ (ZI ZQ s.1.size)).setCell ⟨rb, k * 7 + 3, none⟩ (.bool s.1.el)).setCell ⟨rb, k * 7 + 4, none⟩ (.bool s.1.fl)).setCell ⟨rb, k * 7 + 5, none⟩ (.bool s.1.ect)).setCell ⟨rb, k * 7 + 6, none⟩ (.bool s.2)) b rb m room last fr long many fl el (ring.set k s) :=
 ⟨_, _, ((((((h.blk.far h.ne _).far h.ne _).far h.ne _).far h.ne _).far h.ne _).far h.ne _).far h.ne _, blk_slot h.rng hk, h.m2, h.r1, h.r2⟩

theorem slot_info : (Tryz.prog.info? 137).map (fun i => (i.zero, i.size, i.bytes)) = some (some (.agg #[ZI ZQ 0, ZI ZQ 0, ZI ZQ 0, .bool false, .bool false, .bool false, .bool false]), 7, 40) := by kernel_rfl

theorem LogC.newRing {w : World} {b rb m room : Nat} {last : Int} {fr long many : Nat} {fl el : Int} {ring ring' : List Sl} (h : LogC w b rb m room last fr long many fl el ring) {N k : Nat} {x : Int} (hN : Blk w N 137 (ring'.flatMap slCells ++ []).toArray) (e : x = (k : Int)) :
  LogC (((w.setCell ⟨b, 2, none⟩ (.slice (some ⟨N, 0, none⟩) m m)).setCell ⟨b, 3, none⟩ (ZI ZQ 0)).setCell ⟨b, 4, none⟩ (ZI ZQ x)) b N m room last 0 k many fl el ring' := by
 have hne : N ≠ b := by
  rintro rfl
  have h1 := h.blk
  unfold Blk at h1 hN
  rw [h1] at hN
  injection hN with hN
  injection hN with _ hN
  cases hN
 exact ⟨m, [], (((h.blk.set 2 _).set 3 _).set 4 _).eq (by simp [e]), ((hN.far hne _).far hne _).far hne _, h.m2, h.r1, h.r2⟩

/-- What 'pack' leaves. -/
def PackPost (w : World) (b m room : Nat) (last : Int) (many : Nat) (fl el : Int) (q : List Sl) (e : Ending) (w' : World) : Prop :=
 e = .returned (.tuple #[]) ∧ ∃ ring', LogC w' b w.heap.size m room last 0 (q.filter (·.2)).length many fl el ring' ∧ Ring m 0 ring' (q.filter (·.2)) ∧ Only [b] w w'

set_option maxHeartbeats 2000000 in
theorem pack_any {w : World} {b rb m room : Nat} {last : Int} {fr many : Nat} {fl el : Int} {ring q : List Sl} (hL : LogC w b rb m room last fr q.length many fl el ring) (hr : Ring m fr ring q) :
  Calls Tryz.prog 109 #[.pointer (some ⟨b, 0, none⟩)] w (PackPost w b m room last many fl el q) := by
 have hb := hL.blk.lt
 have hrb := hL.rng.lt
 have hm := hL.m2
 have hr1 := hL.r1
 have hr2 := hL.r2
 have hq := hr.long
 have hf := hr.frm
 obtain ⟨i0, hi, hz0, hz1, hz2⟩ := info_parts slot_info
 have hmk := fun W => make_rows (P := Tryz.prog) 117 137 i0 _ 7 40 Tryz.underlying117 hi hz0 hz1 hz2 m (by omega) (by omega) W
 have H2 : w.cell? ⟨b, 2, none⟩ = some (.slice (some ⟨rb, 0, none⟩) m hL.cap) := hL.cell 2
 have H4 : w.cell? ⟨b, 4, none⟩ = some (ZI ZQ q.length) := hL.cell 4
 have HM := hide hm
 clear hm hi hz0 hz1 hz2
 have hm1 : 1 ≤ m := by have := HM.out; omega
 have hm2 : m ≤ 512 := by have := HM.out; omega
 go_enter Tryz.func109, Tryz.ntmps109
 go_wp2
 go_loopw [3, 16] (fun t3 t16 wr => ∃ k : Nat, k ≤ q.length ∧ t16 = ZI ZQ k ∧ t3 = ZI ZQ ((q.take k).filter (·.2)).length ∧ Only [w.heap.size] w wr ∧ Blk wr w.heap.size 137 ((packed m q k).flatMap slCells ++ []).toArray)
  (fun _ i _ => q.length - (intOf i).toNat)
 case atStart =>
  refine ⟨0, Nat.zero_le _, rfl, rfl, (Only.refl _ _).alloc _, ?_⟩
  rw [show packed m q 0 = List.replicate m zeroSl by simp [packed], List.append_nil, ← made_slots]
  exact Blk.new _ _ _
 case round =>
  obtain ⟨k, hk, rfl, rfl, hO, hN⟩ := hrel
  have hLw := hL.only hO (by simp; omega) (by simp; omega)
  have c2 : wr.cell? ⟨b, 2, none⟩ = some (.slice (some ⟨rb, 0, none⟩) m hLw.cap) := hLw.cell 2
  have c3 : wr.cell? ⟨b, 3, none⟩ = some (ZI ZQ fr) := hLw.cell 3
  have hpl := packed_length (m := m) (q := q) k hq
  have htl : ((q.take k).filter (·.2)).length ≤ k := Nat.le_trans (List.length_filter_le _ _) (List.length_take_le _ _)
  by_cases hlt : k < q.length
  ·have hs : q[k]? = some q[k] := List.getElem?_eq_getElem hlt
   have hat := hr.at_ k hlt
   rw [hs] at hat
   obtain ⟨s, hsx⟩ : ∃ s, q[k] = s := ⟨_, rfl⟩
   rw [hsx] at hs hat
   obtain ⟨s0, s1, s2, s3, s4, s5, s6⟩ := hLw.slot hat
   cases hth : s.2
   ·have e1 := packed_skip (m := m) hs hth
    have e2 := congrArg List.length (take_skip hs hth)
    rw [hth] at s6
    have E1 := hide e1
    have E2 := hide e2
    clear e1 e2 hs hat hsx hth
    go_wp2_with (go_at_call 110; refine (at_any b rb m fr k _ c2 c3 (by omega) (by omega) (by omega) (by omega)).mono ?_; rintro e w1 ⟨rfl, nq, rfl⟩)
    go_roundw
    case rel => exact ⟨k + 1, by omega, by go_num, by rw [E2.out], hO.drewN _, by rw [E1.out]; exact hN.drewN _⟩
    case measure => simp [intOf]; omega
   ·have e1 := packed_keep (m := m) hq hs hth
    have e2 : ((q.take (k + 1)).filter (·.2)).length = ((q.take k).filter (·.2)).length + 1 := by rw [take_keep hs hth]; simp
    rw [hth] at s6
    obtain ⟨to, hto⟩ : ∃ to, to = ((q.take k).filter (·.2)).length := ⟨_, rfl⟩
    rw [← hto] at e1 e2 htl ⊢
    have hz : (packed m q k)[to]? = some zeroSl := by
     unfold packed
     rw [List.getElem?_append_right (by omega), List.getElem?_replicate, if_pos (by omega)]
    obtain ⟨z0, z1, z2, z3, z4, z5, z6⟩ := slot_cells hN hz
    have hfz := hN.frozen
    have hnb := hN.lt
    have hlen : to < (packed m q k).length := by omega
    have E1 := hide e1
    have E2 := hide e2
    have E3 := hide hth
    clear e1 e2 hs hat hsx hz hto hth hpl
    go_wp2_with (go_at_call 110; refine (at_any b rb m fr k _ c2 c3 (by omega) (by omega) (by omega) (by omega)).mono ?_; rintro e w1 ⟨rfl, nq, rfl⟩)
    go_roundw
    case rel =>
     refine ⟨k + 1, by omega, by go_num, ?_, ?_, ?_⟩
     ·rw [E2.out]; go_num
     ·(repeat (first | with_reducible exact hO | with_reducible refine Only.setCell ?_ (.inl (by simp)) _ | with_reducible refine Only.drewN ?_ _))
     ·rw [E1.out]
      have hx := blk_slot (s := s) (hN.drewN nq) hlen
      rw [E3.out] at hx
      exact hx
    case measure => simp [intOf]; omega
  ·obtain rfl : k = q.length := by omega
   have hfr := hLw.blk.frozen
   have c4 : wr.cell? ⟨b, 4, none⟩ = some (ZI ZQ q.length) := hLw.cell 4
   have e1 : q.take q.length = q := List.take_length
   rw [e1]
   have E1 := hide e1
   clear e1
   go_wp2
   go_end0
   refine ⟨rfl, _, hLw.newRing hN rfl, ⟨packed_length _ hq, ?_, by omega, ?_⟩, ?_⟩
   ·have := List.length_filter_le (fun s : Sl => s.2) q; omega
   ·intro i hi
    rw [Nat.zero_add, Nat.mod_eq_of_lt (by have := List.length_filter_le (fun s : Sl => s.2) q; omega)]
    unfold packed
    rw [E1.out, List.getElem?_append_left hi]
   ·refine Only.mono (S := [w.heap.size, b]) ?_ (by simp)
    refine Only.setCell (Only.setCell (Only.setCell (hO.mono (by simp)) (.inl (by simp)) _) (.inl (by simp)) _) (.inl (by simp)) _
end Go.Proofs.YtgicljeedegncaaGreat

namespace Go.Proofs.YtgicljeedegncaaGreat
open List renaming setIfInBounds_toArray → ZD, getElem?_toArray → ZG
open Go.Value renaming int → ZI
open Go.IntKind renaming i64 → ZQ
open Go.RowKit

/-- What Put leaves where it takes the packet. -/
def PutPost (w : World) (b rb room : Nat) (p : Pk) (ps : List Pk) (e : Ending) (w' : World) : Prop :=
 e = .returned (ZI ZQ 0) ∧ ∃ rb', IsLog w' b rb' room p.num (ps ++ [p]) ∧ (rb' = rb ∨ w.heap.size ≤ rb') ∧ Only [b, rb] w w'

theorem put_end {w : World} {b rb m room : Nat} {last : Int} {fr : Nat} {ring q : List Sl} {ps : List Pk} {p : Pk} (hC : LogC w b rb m room p.num fr (q.length + 1) (ps.length + 1) (totF p.fl (flightOf ps) p.size) (totE p.fl p.el (elicOf ps) 1) (ring.set ((fr + q.length) % m) (p, true)))
  (hR : Ring m fr ring q) (hl : q.length < m) (hG : Good room last q) (hp : ps = liveOf q) (hm : p.may) (hn : last < p.num) (hr : ps.length < room) : IsLog w b rb room p.num (ps ++ [p]) := by
 refine ⟨m, fr, _, q ++ [(p, true)], ?_, hR.push hl _, good_push hG hm hn (by rw [← hp]; exact hr), by rw [live_push, hp]⟩
 rw [List.length_append, List.length_append, flight_push, elic_push]
 exact hC

theorem good_filter {room : Nat} {last : Int} {q : List Sl} (h : Good room last q) : Good room last (q.filter (·.2)) := by
 refine ⟨h.sorted.sublist List.filter_sublist, fun s hs => h.may s (List.mem_filter.1 hs).1, fun s hs => h.le s (List.mem_filter.1 hs).1, fun s hs => ?_, ?_, h.last⟩
 ·have : s ∈ q.filter (·.2) := List.mem_of_mem_head? hs
  exact (List.mem_filter.1 this).2
 ·have := h.room
  simpa [liveOf] using this
theorem live_filter (q : List Sl) : liveOf (q.filter (·.2)) = liveOf q := by simp [liveOf]

set_option maxHeartbeats 4000000 in
theorem put_ok1 (b rb room : Nat) (last n t s : Int) (e f c : Bool) (ps : List Pk) (w : World) (m fr : Nat) (ring q : List Sl) (hC : LogC w b rb m room last fr q.length ps.length (flightOf ps) (elicOf ps) ring) (hR : Ring m fr ring q) (hG : Good room last q) (hp : ps = liveOf q)
  (h : (Pk.mk n t s e f c).may) (hn : last < n) (hfull : ps.length < room) (hlong : q.length < m) :
  Calls Tryz.prog 62 #[.pointer (some ⟨b, 0, none⟩), .agg #[ZI ZQ n, ZI ZQ t, ZI ZQ s, .bool e, .bool f, .bool c]] w (PutPost w b rb room (Pk.mk n t s e f c) ps) := by
 have hr1 := hC.r1
 have hr2 := hC.r2
 have hm2 : m ≤ 512 := by have := hC.m2; omega
 have hb := hC.blk.lt
 have hrb := hC.rng.lt
 have hne := hC.ne
 have hne' := hC.ne.symm
 have hfm := hR.frm
 have h0 : w.cell? ⟨b, 0, none⟩ = some (ZI ZQ room) := hC.cell 0
 have h1 : w.cell? ⟨b, 1, none⟩ = some (ZI ZQ last) := hC.cell 1
 have h2 : w.cell? ⟨b, 2, none⟩ = some (.slice (some ⟨rb, 0, none⟩) m hC.cap) := hC.cell 2
 have h3 : w.cell? ⟨b, 3, none⟩ = some (ZI ZQ fr) := hC.cell 3
 have h4 : w.cell? ⟨b, 4, none⟩ = some (ZI ZQ q.length) := hC.cell 4
 have h5 : w.cell? ⟨b, 5, none⟩ = some (ZI ZQ ps.length) := hC.cell 5
 have hk : (fr + q.length) % m < ring.length := by rw [hR.len]; exact Nat.mod_lt _ (by omega)
 have hat : ring[(fr + q.length) % m]? = some ring[(fr + q.length) % m] := List.getElem?_eq_getElem hk
 obtain ⟨z0, z1, z2, z3, z4, z5, z6⟩ := hC.slot hat
 have hfz := hC.rng.frozen
 have hfb := hC.blk.frozen
 have e5 : ((ps.length : Int) == (room : Int)) = false := by rw [beq_eq_false_iff_ne]; omega
 have e4 : ((q.length : Int) == (m : Int)) = false := by rw [beq_eq_false_iff_ne]; omega
 have HP := hide hp
 have HN := hide h
 have HA := hide hat
 clear hp h hat
 go_enter Tryz.func62, Tryz.ntmps62
 go_wp2_with (first | (go_at_call 99; refine (none_no b room _ ((hC.alloc _).cell 0) hr1).mono ?_; rintro e1 w1 ⟨rfl, rfl⟩) | (go_at_call 108; refine (may_yes _ _ _ _ _ _ _ HN.out).mono ?_; rintro e1 w1 ⟨rfl, hb1⟩; obtain ⟨hc1, hf1⟩ := bcell hb1; have hC1 := (hC.alloc _).below hb1; have c2 : w1.cell? ⟨b, 2, none⟩ = some (.slice (some ⟨rb, 0, none⟩) m hC1.cap) := hC1.cell 2; have c3 : w1.cell? ⟨b, 3, none⟩ = some (ZI ZQ fr) := hC1.cell 3))
 go_quiet (fail)
 go_wp2
 go_quiet (fail)
 go_wp2
 go_quiet (fail)
 go_wp2
 go_region_with (go_at_call 110; refine (at_any b rb m fr q.length (w1.drewN _) c2 c3 (by omega) (by omega) (by omega) (by omega)).mono ?_; rintro e2 w2 ⟨rfl, nq2, rfl⟩)
 all_goals go_wp2_with fail
 all_goals
  obtain ⟨p1, p2, p3, p4, p5, p6⟩ := HN.out
  obtain ⟨f1, f2⟩ := flight_bounds ps (by rw [HP.out]; exact live_may hG.may)
  obtain ⟨g1, g2⟩ := elic_bounds ps
  refine (more_any ((((hC1.drewN _).setSlot hk (⟨n, t, s, e, f, c⟩, true)).setLong (x := (q.length : Int) + 1) (k := q.length + 1) (by omega)).setLast n) n t s e f c (by omega) f1 (by omega) g1 (by omega) p5 p6).mono ?_
  rintro e3 w3 ⟨rfl, hL3, hO3⟩
  go_wp2
  go_ret
  refine ⟨rfl, rb, put_end hL3 hR hlong hG HP.out HN.out hn hfull, .inl rfl, Only.trans (S := [b, rb]) ?_ hO3 (by simp)⟩
  repeat (first | with_reducible refine Only.setCell ?_ (.inl (by simp)) _ | with_reducible refine Only.drewN ?_ _)
  exact ((Only.refl _ _).alloc _).trans (only_of_below hb1 (S := [])) (by simp)
set_option maxHeartbeats 4000000 in
theorem put_ok2 (b rb room : Nat) (last n t s : Int) (e f c : Bool) (ps : List Pk) (w : World) (m fr : Nat) (ring q : List Sl) (hC : LogC w b rb m room last fr q.length ps.length (flightOf ps) (elicOf ps) ring) (hR : Ring m fr ring q) (hG : Good room last q) (hp : ps = liveOf q)
  (h : (Pk.mk n t s e f c).may) (hn : last < n) (hfull : ps.length < room) (hlong : q.length = m) :
  Calls Tryz.prog 62 #[.pointer (some ⟨b, 0, none⟩), .agg #[ZI ZQ n, ZI ZQ t, ZI ZQ s, .bool e, .bool f, .bool c]] w (PutPost w b rb room (Pk.mk n t s e f c) ps) := by
 have hr1 := hC.r1
 have hr2 := hC.r2
 have hm2 : m ≤ 512 := by have := hC.m2; omega
 have hb := hC.blk.lt
 have hrb := hC.rng.lt
 have hne := hC.ne
 have hne' := hC.ne.symm
 have hfm := hR.frm
 have h0 : w.cell? ⟨b, 0, none⟩ = some (ZI ZQ room) := hC.cell 0
 have h1 : w.cell? ⟨b, 1, none⟩ = some (ZI ZQ last) := hC.cell 1
 have h2 : w.cell? ⟨b, 2, none⟩ = some (.slice (some ⟨rb, 0, none⟩) m hC.cap) := hC.cell 2
 have h3 : w.cell? ⟨b, 3, none⟩ = some (ZI ZQ fr) := hC.cell 3
 have h4 : w.cell? ⟨b, 4, none⟩ = some (ZI ZQ q.length) := hC.cell 4
 have h5 : w.cell? ⟨b, 5, none⟩ = some (ZI ZQ ps.length) := hC.cell 5
 have hlt : (q.filter (·.2)).length < m := by
  have h1 := hC.m2; have h2 : (liveOf q).length = (q.filter (·.2)).length := by simp [liveOf]
  rw [← hp] at h2; omega
 have hfb := hC.blk.frozen
 have e5 : ((ps.length : Int) == (room : Int)) = false := by rw [beq_eq_false_iff_ne]; omega
 have e4 : ((q.length : Int) == (m : Int)) = true := by rw [beq_iff_eq]; omega
 have HL := hide hlong
 have HP := hide hp
 have HN := hide h
 clear hp h hlong
 go_enter Tryz.func62, Tryz.ntmps62
 go_wp2_with (first | (go_at_call 99; refine (none_no b room _ ((hC.alloc _).cell 0) hr1).mono ?_; rintro e1 w1 ⟨rfl, rfl⟩) | (go_at_call 108; refine (may_yes _ _ _ _ _ _ _ HN.out).mono ?_; rintro e1 w1 ⟨rfl, hb1⟩; obtain ⟨hc1, hf1⟩ := bcell hb1; have hC1 := (hC.alloc _).below hb1; have hbx := (only_of_below hb1 (S := [])).blk (Blk.new w _ _) (by simp)))
 go_quiet (fail)
 go_wp2
 go_quiet (fail)
 go_wp2
 go_quiet (fail)
 go_wp2_with (go_at_call 109; refine (pack_any (hC1.drewN _) hR).mono ?_; rintro e2 w2 ⟨rfl, ring', hL2, hR2, hO2⟩)
 have hsz1 := hb1.size
 simp only [World.size_alloc] at hsz1
 obtain ⟨N, hN⟩ : ∃ N, w1.heap.size = N := ⟨_, rfl⟩
 change LogC w2 b w1.heap.size m room last 0 _ _ _ _ ring' at hL2
 rw [hN] at hL2 hsz1
 obtain ⟨k, hkk⟩ : ∃ k, (q.filter (·.2)).length = k := ⟨_, rfl⟩
 rw [hkk] at hlt hL2
 have hk : k % m < ring'.length := by rw [hR2.len]; exact Nat.mod_lt _ (by omega)
 have hat : ring'[k % m]? = some ring'[k % m] := List.getElem?_eq_getElem hk
 obtain ⟨z0, z1, z2, z3, z4, z5, z6⟩ := hL2.slot hat
 have hfz := hL2.rng.frozen
 have hfb2 := hL2.blk.frozen
 have hne2 := hL2.ne
 have hbx2 := hO2.blk (hbx.drewN _) (by simp; omega)
 have x0 : w2.cell? ⟨w.heap.size, 0, none⟩ = some (ZI ZQ n) := hbx2.cell 0
 have x1 : w2.cell? ⟨w.heap.size, 1, none⟩ = some (ZI ZQ t) := hbx2.cell 1
 have x2 : w2.cell? ⟨w.heap.size, 2, none⟩ = some (ZI ZQ s) := hbx2.cell 2
 have x3 : w2.cell? ⟨w.heap.size, 3, none⟩ = some (.bool e) := hbx2.cell 3
 have x4 : w2.cell? ⟨w.heap.size, 4, none⟩ = some (.bool f) := hbx2.cell 4
 have x5 : w2.cell? ⟨w.heap.size, 5, none⟩ = some (.bool c) := hbx2.cell 5
 have y1 : w2.cell? ⟨b, 1, none⟩ = some (ZI ZQ last) := hL2.cell 1
 have y2 : w2.cell? ⟨b, 2, none⟩ = some (.slice (some ⟨N, 0, none⟩) m hL2.cap) := hL2.cell 2
 have y3 : w2.cell? ⟨b, 3, none⟩ = some (ZI ZQ (0 : Nat)) := hL2.cell 3
 have y4 : w2.cell? ⟨b, 4, none⟩ = some (ZI ZQ k) := hL2.cell 4
 have hsz2 := hO2.size
 have hnb2 := hL2.rng.lt
 have hne3 := hne2.symm
 have hne4 : N ≠ w.heap.size := by omega
 have hne5 : w.heap.size ≠ N := by omega
 have hne6 : b ≠ w.heap.size := by omega
 have hne7 : w.heap.size ≠ b := by omega
 have HK := hide hkk
 clear hkk hat
 have hA := fun (c : Nat) (W : World) (g2 : W.cell? ⟨b, 2, none⟩ = some (.slice (some ⟨N, 0, none⟩) m c)) (g3 : W.cell? ⟨b, 3, none⟩ = some (ZI ZQ (0 : Nat))) => at_any b N m 0 k W g2 g3 (by omega) (by omega) (by omega) (by omega)
 simp only [Nat.zero_add] at hA
 have HA := hide hA
 clear hA
 go_region_with (go_at_call 110; refine (HA.out _ (w2.drewN _) y2 y3).mono ?_; rintro e3 w3 ⟨rfl, nq2, rfl⟩)
 all_goals go_wp2_with fail
 all_goals
  obtain ⟨p1, p2, p3, p4, p5, p6⟩ := HN.out
  obtain ⟨f1, f2⟩ := flight_bounds ps (by rw [HP.out]; exact live_may hG.may)
  obtain ⟨g1, g2⟩ := elic_bounds ps
  refine (more_any ((((hL2.drewN _).setSlot hk (⟨n, t, s, e, f, c⟩, true)).setLong (x := (k : Int) + 1) (k := k + 1) (by omega)).setLast n) n t s e f c (by omega) f1 (by omega) g1 (by omega) p5 p6).mono ?_
  rintro e3 w3 ⟨rfl, hL3, hO3⟩
  go_wp2
  go_ret
  refine ⟨rfl, N, put_end (fr := 0) (q := q.filter (·.2)) (ring := ring') (by rw [HK.out, Nat.zero_add]; exact hL3) hR2 (by rw [HK.out]; exact hlt) (good_filter hG) (by rw [live_filter]; exact HP.out) HN.out hn hfull, .inr (by omega), Only.trans (S := [b, rb]) ?_ hO3 (by simp)⟩
  repeat (first | with_reducible refine Only.setCell ?_ (by first | (left; simp; done) | (right; simp; done) | (right; show _ ≤ N; omega)) _ | with_reducible refine Only.drewN ?_ _)
  exact Only.trans (S := [b, rb]) (S' := [b]) (Only.drewN (Only.trans (S' := []) ((Only.refl _ _).alloc _) (only_of_below hb1) (by simp)) _) hO2 (by simp)

/-- Put, where it takes the packet. -/
theorem put_ok (b rb room : Nat) (last n t s : Int) (e f c : Bool) (ps : List Pk) (w : World) (hL : IsLog w b rb room last ps) (h : (Pk.mk n t s e f c).may) (hn : last < n) (hfull : ps.length < room) :
  Calls Tryz.prog 62 #[.pointer (some ⟨b, 0, none⟩), .agg #[ZI ZQ n, ZI ZQ t, ZI ZQ s, .bool e, .bool f, .bool c]] w (PutPost w b rb room (Pk.mk n t s e f c) ps) := by
 obtain ⟨m, fr, ring, q, hC, hR, hG, hp⟩ := hL
 rcases Nat.lt_or_ge q.length m with hl | hl
 ·exact put_ok1 b rb room last n t s e f c ps w m fr ring q hC hR hG hp h hn hfull hl
 ·exact put_ok2 b rb room last n t s e f c ps w m fr ring q hC hR hG hp h hn hfull (Nat.le_antisymm hR.long hl)
end Go.Proofs.YtgicljeedegncaaGreat
