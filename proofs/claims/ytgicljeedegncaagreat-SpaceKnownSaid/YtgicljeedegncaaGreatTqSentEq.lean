/-
 11 texts in one (SpanIter3, Bring, SpanLawA, Ints, SentDrop, SentCopy, SentLawA, SentLawW, SentOnce, SentRoom, SentEq).
-/
import Derived.Test.YtgicljeedegncaaGreatTqSpanIter2
import Derived.Test.YtgicljeedegncaaGreatBase
import Derived.Test.YtgicljeedegncaaGreatRows
import Derived.Test.YtgicljeedegncaaGreatTqSentEach
import Derived.OpenShut
import Derived.Test.YtgicljeedegncaaGreatTqSentW7
import Derived.Test.YtgicljeedegncaaGreatTqSentPut
namespace Go.Proofs.YtgicljeedegncaaGreat
open List renaming setIfInBounds_toArray → ZD, getElem?_toArray → ZG, getElem?_cons_zero → ZH
open Go.Value renaming int → ZI
open Go.IntKind renaming i64 → ZQ
set_option linter.unusedSimpArgs false
set_option linter.unusedVariables false
open Go.RowKit Go.Shelf
attribute [local go_sem] Oper.semAt_some

/-- How many numbers, as the program reckons it. -/
def cntW (rs : List Rg) : Int := rs.foldl (fun s r => wrap64 (s + wrap64 (wrap64 (r.hi - r.lo) + 1))) 0
/-- How many numbers. -/
def cntR : List Rg → Int
 | [] => 0
 | r :: rs => r.hi - r.lo + 1 + cntR rs
end Go.Proofs.YtgicljeedegncaaGreat

namespace Go.Proofs.YtgicljeedegncaaGreat
open List renaming setIfInBounds_toArray → ZD, getElem?_toArray → ZG, getElem?_cons_zero → ZH
open Go.Value renaming int → ZI
open Go.IntKind renaming i64 → ZQ
open Go.RowKit

theorem tmod_neg (i n : Int) (hn : 1 ≤ n) (hi : i < 0) : (i % n = 0 ∧ i.tmod n = 0) ∨ (1 ≤ i % n ∧ i.tmod n = i % n - n) := by
 have h0 := Int.emod_nonneg i (show n ≠ 0 by omega)
 rw [Int.tmod_eq_emod]
 by_cases hd : n ∣ i
 ·left
  have := Int.emod_eq_zero_of_dvd hd
  rw [this]; simp [hd]
 ·right
  have h1 : i % n ≠ 0 := fun h => hd (Int.dvd_of_emod_eq_zero h)
  have h2 : ¬ (0 ≤ i ∨ n ∣ i) := by intro h; rcases h with h | h; omega; exact hd h
  rw [if_neg h2]
  omega

set_option maxHeartbeats 400000 in
theorem bring_any (i n : Int) (w : World) (hn : 1 ≤ n) (hn2 : n ≤ 4611686018427387904) (hi : -9223372036854775808 ≤ i) (hi2 : i ≤ 9223372036854775807) :
  Calls Tryz.prog 11 #[ZI ZQ i, ZI ZQ n] w fun e w' => e = .returned (ZI ZQ (i % n)) ∧ w = w' := by
 have b0 := Int.emod_nonneg i (show n ≠ 0 by omega)
 have b1 := Int.emod_lt_of_pos i (show 0 < n by omega)
 have hz : (n == 0) = false := by rw [beq_eq_false_iff_ne]; omega
 by_cases h : 0 ≤ i
 ·go_enter Tryz.func11, Tryz.ntmps11
  go_wp2
  go_ret
  exact ⟨rfl, rfl⟩
 ·have h' : i < 0 := by omega
  rcases tmod_neg i n hn h' with ⟨h1, h2⟩ | ⟨h1, h2⟩
  ·have H1 := hide h1
   have H2 := hide h2
   have c0 : 0 ≤ i.tmod n := by omega
   clear h1 h2
   go_enter Tryz.func11, Tryz.ntmps11
   go_wp2
   go_ret
   exact ⟨ret_int (by rw [H1.out]; exact H2.out), rfl⟩
  ·have H2 := hide h2
   have c0 : i.tmod n < 0 := by omega
   have c1 : 0 ≤ i.tmod n + n := by omega
   have c2 : i.tmod n + n ≤ n := by omega
   clear h2
   go_enter Tryz.func11, Tryz.ntmps11
   go_wp2
   go_ret
   exact ⟨ret_int (by have := H2.out; show i.tmod n + n = i % n; omega), rfl⟩
end Go.Proofs.YtgicljeedegncaaGreat

namespace Go.Proofs.YtgicljeedegncaaGreat
open List renaming setIfInBounds_toArray → ZD, getElem?_toArray → ZG, getElem?_cons_zero → ZH
open Go.Value renaming int → ZI
open Go.IntKind renaming i64 → ZQ
set_option linter.unusedSimpArgs false
set_option linter.unusedVariables false
open Go.RowKit

theorem RgAt.below {w w' : World} {a : Option Addr} {rs : List Rg} (h : RgAt w a rs) (hb : Below w.heap.size w w') : RgAt w' a rs := fun i r hi => by
 obtain ⟨k, e, hk, z0, z1⟩ := h i r hi
 exact ⟨k, e, Nat.lt_of_lt_of_le hk hb.size, (hb.cell (p := ⟨k, _, none⟩) hk).trans z0, (hb.cell (p := ⟨k, _, none⟩) hk).trans z1⟩
theorem own_rgat {w : World} {base n c : Nat} {a : Option Addr} {rs : List Rg} (hn : rs.length = n) (h : w.ownsRow base 93 2 (.slice a n c) n (rgsCells rs)) : RgAt w a rs := by
 rcases own_split h with ⟨_, h0, _⟩ | ⟨k, cap, cur, e, _, hk, hc, hm, hcl, ht⟩
 ·have : rs = [] := List.eq_nil_of_length_eq_zero (by omega)
  subst this
  intro i r hi
  simp at hi
 ·cases e
  refine fun i r hi => ⟨k, rfl, hk.lt, ?_, ?_⟩
  all_goals
   have hil : i < rs.length := (List.getElem?_eq_some_iff.1 hi).1
   have hlt : ∀ j, j < 2 → cur[i * 2 + j]? = (rgCells r)[j]? := fun j hj => by
    have e : (cur.take (n * 2))[i * 2 + j]? = (rgsCells rs)[i * 2 + j]? := by rw [ht]
    rw [List.getElem?_take, if_pos (by omega)] at e
    rw [e]
    unfold rgsCells
    rw [flat_cell rgCells 2 rgCells_length rs i j hj, hi]
    rfl
  ·rw [hk.cell, ZG]; exact hlt 0 (by omega)
  ·rw [hk.cell, ZG]; exact hlt 1 (by omega)

/-- A row of two numbers as a range. -/
def rowLo (x : Int) : Int := x % 100
def rowHi (x y : Int) : Int := min 99 (x % 100 + y % 12)
end Go.Proofs.YtgicljeedegncaaGreat

namespace Go.Proofs.YtgicljeedegncaaGreat
open List renaming setIfInBounds_toArray → ZD, getElem?_toArray → ZG, getElem?_cons_zero → ZH
open Go.Value renaming int → ZI
open Go.IntKind renaming i64 → ZQ
open Go.RowKit

/-- What the walk is told of a slice of integers that came in. -/
def IntsAt (w : World) (a : Option Addr) (len cap : Nat) (zs : List Int) : Prop :=
 (a = none ∧ len = 0 ∧ cap = 0 ∧ zs = []) ∨
 ∃ x, a = some x ∧ len ≤ cap ∧ cap ≤ maxLen ∧ zs.length = cap ∧ (∀ i, i < zs.length → w.cell? (x.add i) = some (ZI ZQ (zs.getD i 0))) ∧ ∀ n ∈ zs, (Lit.int .i64 n).wf = true

end Go.Proofs.YtgicljeedegncaaGreat

namespace Go.Proofs.YtgicljeedegncaaGreat
open List renaming setIfInBounds_toArray → ZD, getElem?_toArray → ZG, getElem?_cons_zero → ZH
open Go.Value renaming int → ZI
open Go.IntKind renaming i64 → ZQ
open Go.RowKit

/-- What Drop leaves where the packet is there. -/
def DropPost (w : World) (b rb room : Nat) (last n : Int) (p : Pk) (ps : List Pk) (e : Ending) (w' : World) : Prop :=
 e = .returned (.tuple #[.agg #[ZI ZQ p.num, ZI ZQ p.time, ZI ZQ p.size, .bool p.el, .bool p.fl, .bool p.ect], .bool true]) ∧ IsLog w' b rb room last (without n ps) ∧ Only [b, rb] w w'

set_option maxHeartbeats 1000000 in
theorem drop_none (b rb room : Nat) (last n : Int) (ps : List Pk) (w : World) (hL : IsLog w b rb room last ps) (h : ps.find? (fun p => p.num == n) = none) :
  Calls Tryz.prog 98 #[.pointer (some ⟨b, 0, none⟩), ZI ZQ n] w fun e w' => e = .returned (.tuple #[.agg #[ZI ZQ 0, ZI ZQ 0, ZI ZQ 0, .bool false, .bool false, .bool false], .bool false]) ∧ Below w.heap.size w w' := by
 obtain ⟨m, fr, ring, q, hC, hR, hG, hp⟩ := hL
 rw [hp] at h
 have hb := hC.blk.lt
 have hrb := hC.rng.lt
 have HS := hide (slot_none n (hC.alloc (.cells #[ZI ZQ 0, ZI ZQ 0, ZI ZQ 0, .bool false, .bool false, .bool false] 40)) hR hG.sorted (noSlot_of hG.sorted h))
 have HP := hide hp
 have HH := hide h
 clear hp h
 go_enter Tryz.func98, Tryz.ntmps98
 go_wp2_with (first | (go_at_call 147; refine HS.out.mono ?_; rintro e1 w1 ⟨rfl, hb1⟩; obtain ⟨hc1, hf1⟩ := bcell hb1; have hsz := hb1.size; simp only [World.size_alloc] at hsz))
 refine bodyPost_ret (v := .tuple #[.agg #[ZI ZQ 0, ZI ZQ 0, ZI ZQ 0, .bool false, .bool false, .bool false], .bool false]) (by simp [results, Tryz.results98, go_sem, hc1]) rfl ⟨rfl, ?_⟩
 refine Only.of_nil ?_
 repeat (first | with_reducible refine Only.setCell ?_ (.inr (Nat.le_refl _)) _ | with_reducible refine Only.drewN ?_ _)
 exact Only.trans (S' := []) ((Only.refl [] w).alloc _) (only_of_below hb1) (by simp)

theorem LogC.setThere {w : World} {b rb m room : Nat} {last : Int} {fr long many : Nat} {fl el : Int} {ring : List Sl} (h : LogC w b rb m room last fr long many fl el ring) {k : Nat} {p : Pk} {x y : Bool} (hk : ring[k]? = some (p, x)) :
  LogC (w.setCell ⟨rb, k * 7 + 6, none⟩ (.bool y)) b rb m room last fr long many fl el (ring.set k (p, y)) := by
 have hl := flat_length slCells 7 slCells_length ring
 have hkl := (List.getElem?_eq_some_iff.1 hk).1
 refine ⟨_, h.rest, h.blk.far h.ne _, (h.rng.set _ _).eq ?_, h.m2, h.r1, h.r2⟩
 rw [ZD, List.set_append_left _ _ (by rw [hl]; omega), flat_set slCells 7 slCells_length ring k 6 (p, x) (p, y) _ (by omega) hk rfl]

theorem set_there {s : Sl} {q3 : List Sl} (hs : s.2 = false) : liveOf (s :: q3) = liveOf q3 := by rw [liveOf_cons, hs]; rfl

theorem drop_end {w : World} {b rb m room : Nat} {last n : Int} {fr2 i : Nat} {ring q q2 : List Sl} {ps : List Pk} {p : Pk} (hL : LogC w b rb m room last fr2 q2.length (without n ps).length (flightOf (without n ps)) (elicOf (without n ps)) ring) (hR : Ring m fr2 ring q2) (hG : Good room last q)
  (hq : q[i]? = some (p, true)) (hsf : q2 <:+ q.set i (p, false)) (hlv3 : liveOf q2 = liveOf (q.set i (p, false))) (hlv : liveOf (q.set i (p, false)) = without n ps) (hh : ∀ s, q2.head? = some s → s.2 = true) : IsLog w b rb room last (without n ps) :=
 ⟨m, fr2, ring, q2, hL, hR, good_after hG hq hsf hlv3 hh, by rw [hlv3, hlv]⟩

set_option maxHeartbeats 4000000 in
theorem drop_is (b rb room : Nat) (last n : Int) (p : Pk) (ps : List Pk) (w : World) (hL : IsLog w b rb room last ps) (h : ps.find? (fun p => p.num == n) = some p) :
  Calls Tryz.prog 98 #[.pointer (some ⟨b, 0, none⟩), ZI ZQ n] w (DropPost w b rb room last n p ps) := by
 obtain ⟨m, fr, ring, q, hC, hR, hG, hp⟩ := hL
 rw [hp] at h
 obtain ⟨hq, hn⟩ := slotAt_of hG.sorted h
 have hi : firstAt n q < q.length := (List.getElem?_eq_some_iff.1 hq).1
 have hat := hR.at_ _ hi
 rw [hq] at hat
 have hb := hC.blk.lt
 have hrb := hC.rng.lt
 have hr1 := hC.r1
 have hr2 := hC.r2
 have hmp := hG.may _ (List.mem_of_getElem? hq)
 have hps : p ∈ ps := by rw [hp]; exact List.mem_of_find?_eq_some h
 have hpss : ps.Pairwise fun a b => a.num < b.num := by rw [hp]; exact live_sorted hG.sorted
 have hlen := length_without hpss hps hn
 have hfl := flight_without hpss hps hn
 have hel := elic_without hpss hps hn
 have hlv := without_at hG.sorted hq
 have HS := hide (slot_is n p (hC.alloc (.cells #[ZI ZQ 0, ZI ZQ 0, ZI ZQ 0, .bool false, .bool false, .bool false] 40)) hR hG.sorted hq hn)
 obtain ⟨i, hie⟩ : ∃ i, firstAt n q = i := ⟨_, rfl⟩
 rw [hie] at hq hi hat HS hlv
 rw [hn, ← hp] at hlv
 have hRS := hR.set hi (p, false)
 obtain ⟨k, hke⟩ : ∃ k, (fr + i) % m = k := ⟨_, rfl⟩
 rw [hke] at hat hRS HS
 have HP := hide hp
 have HN := hide hn
 have HQ := hide hq
 have HH := hide h
 have HA := hide hat
 have HI := hide hie
 have HK := hide hke
 have HLEN := hide hlen
 have HFL := hide hfl
 have HEL := hide hel
 have HLV := hide hlv
 have HM := hide hC.m2
 have HPS := hide hps
 clear hp hn hq h hie hke hlen hfl hel hlv hps hat
 obtain ⟨p1, p2, p3, p4, p5, p6⟩ := hmp
 obtain ⟨f1, f2⟩ := flight_bounds ps (by rw [HP.out]; exact live_may hG.may)
 obtain ⟨g1, g2⟩ := elic_bounds ps
 have hroom := hG.room
 rw [← HP.out] at hroom
 go_enter Tryz.func98, Tryz.ntmps98
 go_wp2_with (first | (go_at_call 147; refine HS.out.mono ?_; rintro e1 w1 ⟨rfl, hb1⟩; have hC1 := (hC.alloc (.cells #[ZI ZQ 0, ZI ZQ 0, ZI ZQ 0, .bool false, .bool false, .bool false] 40)).below hb1; obtain ⟨z0, z1, z2, z3, z4, z5, z6⟩ := hC1.slot HA.out; simp only at z0 z1 z2 z3 z4 z5 z6; have hsz := hb1.size; simp only [World.size_alloc] at hsz; have hfr1 := hC1.rng.frozen; have hbx := (only_of_below hb1 (S := [])).blk (Blk.new w _ _) (by simp)))
 rw [← HLEN.out] at hC1
 refine (less_any (hC1.setThere HA.out) p.num p.time p.size p.el p.fl p.ect (by have := HLEN.out; omega) f1 (by omega) g1 (by omega) p5 p6).mono ?_
 rintro e2 w2 ⟨rfl, hL2, hO2⟩
 rw [← HFL.out, ← HEL.out] at hL2
 have hbx2 : Blk w2 w.heap.size 40 _ := hO2.blk (hbx.far (by simp; omega) _) (by simp; omega)
 have hk2 : (ring.set k (p, false))[k]? = some (p, false) := List.getElem?_set_self (List.getElem?_eq_some_iff.1 HA.out).1
 obtain ⟨y0, y1, y2, y3, y4, y5, y6⟩ := hL2.slot hk2
 simp only at y0 y1 y2 y3 y4 y5 y6
 have x0 : w2.cell? ⟨w.heap.size, 0, none⟩ = some (ZI ZQ 0) := hbx2.cell 0
 have x1 : w2.cell? ⟨w.heap.size, 1, none⟩ = some (ZI ZQ 0) := hbx2.cell 1
 have x2 : w2.cell? ⟨w.heap.size, 2, none⟩ = some (ZI ZQ 0) := hbx2.cell 2
 have x3 : w2.cell? ⟨w.heap.size, 3, none⟩ = some (.bool false) := hbx2.cell 3
 have x4 : w2.cell? ⟨w.heap.size, 4, none⟩ = some (.bool false) := hbx2.cell 4
 have x5 : w2.cell? ⟨w.heap.size, 5, none⟩ = some (.bool false) := hbx2.cell 5
 have hfx := hbx2.frozen
 have hne1 : rb ≠ w.heap.size := by omega
 have hne2 : b ≠ w.heap.size := by omega
 have hsz2 : w.heap.size < w2.heap.size := hbx2.lt
 have hO2' : Only [b, rb] w w2 := Only.trans (S' := [b]) (Only.setCell (Only.trans (S' := []) ((Only.refl [b, rb] w).alloc _) (only_of_below hb1) (by simp)) (.inl (by simp)) _) hO2 (by simp)
 have hpb := hbx2.set 0 (ZI ZQ p.num) |>.set 1 (ZI ZQ p.time) |>.set 2 (ZI ZQ p.size) |>.set 3 (.bool p.el) |>.set 4 (.bool p.fl) |>.set 5 (.bool p.ect)
 have hlq : (q.set i (p, false)).length = q.length := List.length_set
 rw [← hlq] at hL2
 have HK2 := hide hk2
 clear hk2 hC1 hbx
 go_wp2
 go_loopg [26] q.length (fun kx s26 wr => ∃ (fr2 : Nat) (q2 : List Sl), q2.length ≤ kx ∧ LogC wr b rb m room last fr2 q2.length (without n ps).length (flightOf (without n ps)) (elicOf (without n ps)) (ring.set k (p, false)) ∧ Ring m fr2 (ring.set k (p, false)) q2 ∧
  q2 <:+ q.set i (p, false) ∧ liveOf q2 = liveOf (q.set i (p, false)) ∧ Only [b, rb] w wr ∧ Blk wr w.heap.size 40 #[ZI ZQ p.num, ZI ZQ p.time, ZI ZQ p.size, .bool p.el, .bool p.fl, .bool p.ect])
 case atStart =>
  refine ⟨fr, q.set i (p, false), Nat.le_of_eq hlq, ?_, hRS, List.suffix_refl _, rfl, ?_, hpb.eq (by simp)⟩
  ·exact (((((hL2.far hne2 hne1 _).far hne2 hne1 _).far hne2 hne1 _).far hne2 hne1 _).far hne2 hne1 _).far hne2 hne1 _
  ·exact (((((hO2'.setCell (.inr (Nat.le_refl _)) _).setCell (.inr (Nat.le_refl _)) _).setCell (.inr (Nat.le_refl _)) _).setCell (.inr (Nat.le_refl _)) _).setCell (.inr (Nat.le_refl _)) _).setCell (.inr (Nat.le_refl _)) _
 case round =>
  obtain ⟨fr2, q2, hkx, hL3, hR3, hsf, hlv3, hO3, hB3⟩ := hrel
  have c2 : wr.cell? ⟨b, 2, none⟩ = some (.slice (some ⟨rb, 0, none⟩) m hL3.cap) := hL3.cell 2
  have c3 : wr.cell? ⟨b, 3, none⟩ = some (ZI ZQ fr2) := hL3.cell 3
  have c4 : wr.cell? ⟨b, 4, none⟩ = some (ZI ZQ q2.length) := hL3.cell 4
  have b0 : wr.cell? ⟨w.heap.size, 0, none⟩ = some (ZI ZQ p.num) := hB3.cell 0
  have b1 : wr.cell? ⟨w.heap.size, 1, none⟩ = some (ZI ZQ p.time) := hB3.cell 1
  have b2 : wr.cell? ⟨w.heap.size, 2, none⟩ = some (ZI ZQ p.size) := hB3.cell 2
  have b3 : wr.cell? ⟨w.heap.size, 3, none⟩ = some (.bool p.el) := hB3.cell 3
  have b4 : wr.cell? ⟨w.heap.size, 4, none⟩ = some (.bool p.fl) := hB3.cell 4
  have b5 : wr.cell? ⟨w.heap.size, 5, none⟩ = some (.bool p.ect) := hB3.cell 5
  have hf3 := hB3.frozen
  have hf4 := hL3.blk.frozen
  have hfm := hR3.frm
  have hqm := hR3.long
  have hm1 : 1 ≤ m := by omega
  have hm2 : m ≤ 512 := by have := HM.out; omega
  have hA := fun (c : Nat) (W : World) (g2 : W.cell? ⟨b, 2, none⟩ = some (.slice (some ⟨rb, 0, none⟩) m c)) (g3 : W.cell? ⟨b, 3, none⟩ = some (ZI ZQ fr2)) => at_any b rb m fr2 0 W g2 g3 (by omega) (by omega) (by omega) (by omega)
  simp only [Nat.add_zero, Nat.mod_eq_of_lt hfm, Int.natCast_zero] at hA
  have HAT := hide hA
  clear hA
  clear z0 z1 z2 z3 z4 z5 z6 y0 y1 y2 y3 y4 y5 y6 x0 x1 x2 x3 x4 x5 hfx hpb hL2 hO2 hbx2 hfr1
  cases q2 with
  | nil =>
   have c4' : wr.cell? ⟨b, 4, none⟩ = some (ZI ZQ 0) := c4
   have HEAD : Hid (∀ s, ([] : List Sl).head? = some s → s.2 = true) := by intro s h; cases h
   clear c4
   go_wp2_with (first | (go_at_call 110; refine (HAT.out _ _ c2 c3).mono ?_; rintro e4 w4 ⟨rfl, nq, rfl⟩))
   refine bodyPost_ret (v := .tuple #[.agg #[ZI ZQ p.num, ZI ZQ p.time, ZI ZQ p.size, .bool p.el, .bool p.fl, .bool p.ect], .bool true]) (by simp [results, Tryz.results98, go_sem, b0, b1, b2, b3, b4, b5]) rfl ⟨rfl, drop_end ?_ hR3 hG HQ.out hsf hlv3 HLV.out HEAD.out, ?_⟩
   ·repeat (first | with_reducible refine LogC.far ?_ hne2 hne1 _ | with_reducible refine LogC.drewN ?_ _)
    exact hL3
   ·repeat (first | with_reducible refine Only.setCell ?_ (.inr (Nat.le_refl _)) _ | with_reducible refine Only.drewN ?_ _)
    exact hO3
  | cons s q3 =>
   have hat3 := hR3.at_ 0 (by simp)
   simp only [Nat.add_zero, ZH, Nat.mod_eq_of_lt hfm] at hat3
   obtain ⟨t0, t1, t2, t3, t4, t5, t6⟩ := hL3.slot hat3
   have HT3 := hide hat3
   clear hat3
   have hpos : (0 : Int) < (((s :: q3).length : Nat) : Int) := by simp only [List.length_cons]; omega
   obtain ⟨ln, hln⟩ : ∃ ln, (s :: q3).length = ln := ⟨_, rfl⟩
   rw [hln] at c4 hpos hkx hqm
   cases hs2 : s.2
   ·rw [hs2] at t6
    have hlv4 : liveOf q3 = liveOf (q.set i (p, false)) := by rw [← hlv3, set_there hs2]
    have hsf4 : q3 <:+ q.set i (p, false) := (List.suffix_cons s q3).trans hsf
    have HS2 := hide hs2
    have HLN := hide hln
    have HL3 := hide hlv3
    have HL4 := hide hlv4
    clear hs2 hln hlv3 hlv4
    go_wp2_with (go_at_call 110; refine (HAT.out _ _ c2 c3).mono ?_; rintro e4 w4 ⟨rfl, nq, rfl⟩)
    go_region
    all_goals go_wp2
    all_goals
     go_roundg q3.length
     case measure => have := HLN.out; simp only [List.length_cons] at this; omega
     case rel =>
      refine ⟨(fr2 + 1) % m, q3, Nat.le_refl _, ?_, hR3.pop, hsf4, HL4.out, ?_, ?_⟩
      ·exact ((hL3.drewN _).setFrom (k := (fr2 + 1) % m) (by rw [Int.natCast_emod]; rfl)).setLong (k := q3.length) (by have := HLN.out; simp only [List.length_cons] at this; omega)
      ·exact ((hO3.drewN _).setCell (.inl (by simp)) _).setCell (.inl (by simp)) _
      ·exact ((hB3.drewN _).far hne2.symm _).far hne2.symm _
   ·have HEAD : Hid (∀ s', (s :: q3).head? = some s' → s'.2 = true) := by intro s' h; cases h; exact hs2
    rw [hs2] at t6
    have HS2 := hide hs2
    have HLN := hide hln
    clear hs2 hln
    go_wp2_with (first | (go_at_call 110; refine (HAT.out _ _ c2 c3).mono ?_; rintro e4 w4 ⟨rfl, nq, rfl⟩))
    refine bodyPost_ret (v := .tuple #[.agg #[ZI ZQ p.num, ZI ZQ p.time, ZI ZQ p.size, .bool p.el, .bool p.fl, .bool p.ect], .bool true]) (by simp [results, Tryz.results98, go_sem, b0, b1, b2, b3, b4, b5]) rfl ⟨rfl, drop_end ?_ hR3 hG HQ.out hsf hlv3 HLV.out HEAD.out, ?_⟩
    ·repeat (first | with_reducible refine LogC.far ?_ hne2 hne1 _ | with_reducible refine LogC.drewN ?_ _)
     exact hL3
    ·repeat (first | with_reducible refine Only.setCell ?_ (.inr (Nat.le_refl _)) _ | with_reducible refine Only.drewN ?_ _)
     exact hO3
end Go.Proofs.YtgicljeedegncaaGreat

namespace Go.Proofs.YtgicljeedegncaaGreat
open List renaming setIfInBounds_toArray → ZD, getElem?_toArray → ZG, getElem?_cons_zero → ZH
open Go.Value renaming int → ZI
open Go.IntKind renaming i64 → ZQ
open Go.RowKit

/-- What slices.Clone leaves of a ring. -/
def ClonePost (w : World) (m : Nat) (xs : List Value) (e : Ending) (w' : World) : Prop := ∃ v, e = .returned v ∧ w'.ownsRow w.heap.size 137 7 v m xs ∧ Below w.heap.size w w'

theorem sl_one {r : List Sl} : ∀ u ∈ r.flatMap slCells, u.oneCell' = true := by
 intro u hu
 obtain ⟨s, _, hs⟩ := List.mem_flatMap.1 hu
 simp [slCells] at hs
 rcases hs with h | h | h | h | h | h | h <;> subst h <;> rfl

set_option maxHeartbeats 1000000 in
theorem clone_any (rb m cap : Nat) (ring : List Sl) (rest : List Value) (w : World) (h : Blk w rb 137 (ring.flatMap slCells ++ rest).toArray) (hl : ring.length = m) (hm : m ≤ 512) :
  Calls Tryz.prog 131 #[.slice (some ⟨rb, 0, none⟩) m cap] w (ClonePost w m (ring.flatMap slCells)) := by
 have hrb := h.lt
 obtain ⟨i0, hi, hz0, hz1, hz2⟩ := info_parts slot_info
 have hfl := flat_length slCells 7 slCells_length ring
 have hR : Reads w w.heap.size 7 (some ⟨rb, 0, none⟩) m (ring.flatMap slCells) := ⟨by rw [hfl, hl], fun _ => ⟨_, rfl, hrb, fun j u hu => by
  rw [add_at, h.cell, ZG, List.getElem?_append_left (List.getElem?_eq_some_iff.1 hu).1]; exact hu⟩⟩
 have HR := hide hR
 have HL := hide hl
 clear hR hl hfl
 have hnil := fun (W : World) => Lib.run_eql_slice_nil (P := Tryz.prog) W 117 137 (some ⟨rb, 0, none⟩) m cap 0 0 Tryz.underlying117
 go_enter Tryz.func131, Tryz.ntmps131
 go_wp2_with (at_builtin; refine wpList_append_any _ rfl (.tmp 5) (.tmp 6) _ rfl w.heap.size 137 i0 _ 7 40 Tryz.underlying117 hi hz0 hz1 hz2 rfl (by decide) (.slice (some ⟨w.heap.size, 0, none⟩) 0 0) 0 [] rfl (by exact World.ownsRow_lit w #[] 0 (Nat.le_refl _) (by decide) rfl) w.heap.size (some ⟨rb, 0, none⟩) m cap (ring.flatMap slCells) rfl (by exact HR.out.alloc (Nat.le_refl _) _) sl_one (by unfold maxLen; omega) (by omega) (by simp) ?_; intro v' w1 hown1 hg1 hat1)
 go_ret
 refine ⟨v', rfl, by simpa using hown1, ((Below.refl _ _).alloc (Nat.le_refl _) _).trans (Below.grown (Below.refl _ _) hg1 (by simp) (fun k hk => by simp [Value.ownBlock] at hk; omega))⟩

/-- What Copy leaves. -/
def CopyPost (w : World) (room : Nat) (last : Int) (ps : List Pk) (e : Ending) (w' : World) : Prop :=
 ∃ b' rb', e = .returned (.pointer (some ⟨b', 0, none⟩)) ∧ IsLog w' b' rb' room last ps ∧ w.heap.size ≤ b' ∧ w.heap.size ≤ rb' ∧ Below w.heap.size w w'

set_option maxHeartbeats 1000000 in
theorem copy_any (b rb room : Nat) (last : Int) (ps : List Pk) (w : World) (hL : IsLog w b rb room last ps) :
  Calls Tryz.prog 84 #[.pointer (some ⟨b, 0, none⟩)] w (CopyPost w room last ps) := by
 obtain ⟨m, fr, ring, q, hC, hR, hG, hp⟩ := hL
 have hb := hC.blk.lt
 have hrb := hC.rng.lt
 have hr1 := hC.r1
 have hr2 := hC.r2
 have hm2 := hC.m2
 have c0 : w.cell? ⟨b, 0, none⟩ = some (ZI ZQ room) := hC.cell 0
 have c1 : w.cell? ⟨b, 1, none⟩ = some (ZI ZQ last) := hC.cell 1
 have c2 : w.cell? ⟨b, 2, none⟩ = some (.slice (some ⟨rb, 0, none⟩) m hC.cap) := hC.cell 2
 have c3 : w.cell? ⟨b, 3, none⟩ = some (ZI ZQ fr) := hC.cell 3
 have c4 : w.cell? ⟨b, 4, none⟩ = some (ZI ZQ q.length) := hC.cell 4
 have c5 : w.cell? ⟨b, 5, none⟩ = some (ZI ZQ ps.length) := hC.cell 5
 have c6 : w.cell? ⟨b, 6, none⟩ = some (ZI ZQ (flightOf ps)) := hC.cell 6
 have c7 : w.cell? ⟨b, 7, none⟩ = some (ZI ZQ (elicOf ps)) := hC.cell 7
 have HK := hide (fun (t : TypeId) (cs : Array Value) => clone_any rb m hC.cap ring hC.rest (w.alloc (.cells cs t)) (hC.rng.alloc _) hR.len (by omega))
 have HP := hide hp
 have HM := hide hm2
 have hm1 : 1 ≤ m := by omega
 clear hp hm2
 go_enter Tryz.func84, Tryz.ntmps84
 go_wp2_with (first | (go_at_call 99; refine (none_no b room _ (hC.cell 0) hr1).mono ?_; rintro e1 w1 ⟨rfl, rfl⟩) | (go_at_call 131; refine (HK.out _ _).mono ?_; rintro e1 w1 ⟨v, rfl, hown1, hb1⟩; obtain ⟨g, cap', rest', rfl, hg, hcap, hBg⟩ := own_blk hown1 hm1; have hB1 := (only_of_below hb1 (S := [])).blk (Blk.new w _ _) (by simp); have d2 : w1.cell? ⟨w.heap.size, 2, none⟩ = some (.slice (some ⟨rb, 0, none⟩) m hC.cap) := hB1.cell 2; have df := hB1.frozen))
 go_ret
 simp only [World.size_alloc] at hg
 refine ⟨w.heap.size, g, rfl, ⟨m, fr, ring, q, ⟨cap', rest', (hB1.set 2 _).eq (by simp), hBg.far (by simp; omega) _, HM.out, hr1, hr2⟩, hR, hG, HP.out⟩, Nat.le_refl _, by omega, (((Below.refl _ _).alloc (Nat.le_refl _) _).trans (hb1.mono (by simp))).setCell (by simp) _⟩
end Go.Proofs.YtgicljeedegncaaGreat

namespace Go.Proofs.YtgicljeedegncaaGreat
open List renaming setIfInBounds_toArray → ZD, getElem?_toArray → ZG, getElem?_cons_zero → ZH
open Go.Value renaming int → ZI
open Go.IntKind renaming i64 → ZQ
open Go.RowKit

/-- The statements' own packet of 100 bytes. -/
def pk1 (n : Int) : Pk := ⟨n, 0, 100, true, true, false⟩
end Go.Proofs.YtgicljeedegncaaGreat

namespace Go.Proofs.YtgicljeedegncaaGreat
open List renaming setIfInBounds_toArray → ZD, getElem?_toArray → ZG, getElem?_cons_zero → ZH
open Go.Value renaming int → ZI
open Go.IntKind renaming i64 → ZQ
open Go.RowKit

end Go.Proofs.YtgicljeedegncaaGreat

namespace Go.Proofs.YtgicljeedegncaaGreat
open List renaming setIfInBounds_toArray → ZD, getElem?_toArray → ZG, getElem?_cons_zero → ZH
open Go.Value renaming int → ZI
open Go.IntKind renaming i64 → ZQ
open Go.RowKit

end Go.Proofs.YtgicljeedegncaaGreat

namespace Go.Proofs.YtgicljeedegncaaGreat
open List renaming setIfInBounds_toArray → ZD, getElem?_toArray → ZG, getElem?_cons_zero → ZH
open Go.Value renaming int → ZI
open Go.IntKind renaming i64 → ZQ
open Go.RowKit

/-- Packets of 100 bytes, under way. -/
def All100 (ps : List Pk) : Prop := ∀ p ∈ ps, p.fl = true ∧ p.size = 100
/-- The cells of a row of packets. -/
theorem pk_cells {w : World} {g t k : Nat} {ps : List Pk} {rest : List Value} {p : Pk} (h : Blk w g t (ps.flatMap Pk.cells ++ rest).toArray) (hs : ps[k]? = some p) :
  w.cell? ⟨g, k * 6, none⟩ = some (ZI ZQ p.num) ∧ w.cell? ⟨g, k * 6 + 1, none⟩ = some (ZI ZQ p.time) ∧ w.cell? ⟨g, k * 6 + 2, none⟩ = some (ZI ZQ p.size) ∧
  w.cell? ⟨g, k * 6 + 3, none⟩ = some (.bool p.el) ∧ w.cell? ⟨g, k * 6 + 4, none⟩ = some (.bool p.fl) ∧ w.cell? ⟨g, k * 6 + 5, none⟩ = some (.bool p.ect) := by
 have hk : k < ps.length := (List.getElem?_eq_some_iff.1 hs).1
 have hl := flat_length Pk.cells 6 pkCells_length ps
 have H : ∀ j, j < 6 → w.cell? ⟨g, k * 6 + j, none⟩ = (p.cells)[j]? := fun j hj => by
  rw [h.cell, ZG, List.getElem?_append_left (by rw [hl]; omega), flat_cell Pk.cells 6 pkCells_length ps k j hj, hs]; rfl
 exact ⟨H 0 (by omega), H 1 (by omega), H 2 (by omega), H 3 (by omega), H 4 (by omega), H 5 (by omega)⟩

end Go.Proofs.YtgicljeedegncaaGreat

namespace Go.Proofs.YtgicljeedegncaaGreat
open List renaming setIfInBounds_toArray → ZD, getElem?_toArray → ZG, getElem?_cons_zero → ZH
open Go.Value renaming int → ZI
open Go.IntKind renaming i64 → ZQ
open Go.RowKit

/-- A slice value that reads as packets. -/
def PkRow (w : World) (v : Value) (ps : List Pk) : Prop :=
 (v = .slice none 0 0 ∧ ps = []) ∨ ∃ g cap rest, v = .slice (some ⟨g, 0, none⟩) ps.length cap ∧ Blk w g 40 (ps.flatMap Pk.cells ++ rest).toArray
theorem own_pkrow {w : World} {base : Nat} {v : Value} {ps : List Pk} (h : w.ownsRow base 40 6 v ps.length (ps.flatMap Pk.cells)) : PkRow w v ps := by
 rcases h.2 with ⟨h0, h1⟩ | ⟨g, cap, cur, hv, hg, hh, hc, _, _, ht⟩
 ·exact .inl ⟨h0, List.length_eq_zero_iff.1 h1⟩
 ·refine .inr ⟨g, cap, cur.toList.drop (ps.length * 6), hv, ?_⟩
  rw [← ht, List.take_append_drop]
  exact hh
theorem PkRow.only {w w' : World} {S : List Nat} {v : Value} {ps : List Pk} (h : PkRow w v ps) (ho : Only S w w') (hn : ∀ g, v.ownBlock = some g → g ∉ S) : PkRow w' v ps := by
 rcases h with h | ⟨g, cap, rest, hv, hb⟩
 ·exact .inl h
 ·exact .inr ⟨g, cap, rest, hv, ho.blk hb (hn g (by rw [hv]; rfl))⟩
theorem PkRow.below {w w' : World} {v : Value} {ps : List Pk} (h : PkRow w v ps) (ho : Below w.heap.size w w') : PkRow w' v ps := h.only (S := []) (only_of_below ho) (by simp)
theorem PkRow.slice {w : World} {v : Value} {ps : List Pk} (h : PkRow w v ps) : ∃ a c, v = .slice a ps.length c := by
 rcases h with ⟨rfl, rfl⟩ | ⟨g, cap, rest, hv, hb⟩
 ·exact ⟨_, _, rfl⟩
 ·exact ⟨_, _, hv⟩

theorem PkRow.at_ {w : World} {a : Option Addr} {n c : Nat} {ps : List Pk} (h : PkRow w (.slice a n c) ps) {k : Nat} (hk : k < ps.length) : ∃ g, a = some ⟨g, 0, none⟩ ∧ ∃ p, ps[k]? = some p ∧
  w.cell? ⟨g, k * 6, none⟩ = some (ZI ZQ p.num) ∧ w.cell? ⟨g, k * 6 + 1, none⟩ = some (ZI ZQ p.time) ∧ w.cell? ⟨g, k * 6 + 2, none⟩ = some (ZI ZQ p.size) ∧
  w.cell? ⟨g, k * 6 + 3, none⟩ = some (.bool p.el) ∧ w.cell? ⟨g, k * 6 + 4, none⟩ = some (.bool p.fl) ∧ w.cell? ⟨g, k * 6 + 5, none⟩ = some (.bool p.ect) := by
 rcases h with ⟨_, rfl⟩ | ⟨g, cap, rest, hv, hb⟩
 ·simp at hk
 ·injection hv with hv
  exact ⟨g, hv, _, List.getElem?_eq_getElem hk, pk_cells hb (List.getElem?_eq_getElem hk)⟩

end Go.Proofs.YtgicljeedegncaaGreat
