/-
 4 texts in one (SentRep, SentW1, SentW2, SentPlain).
-/
import Derived.Test.YtgicljeedegncaaGreatBase
import Derived.Test.YtgicljeedegncaaGreatRows
import Derived.Deep.LoopGhost
namespace Go.Proofs.YtgicljeedegncaaGreat
open List renaming set_cons_zero → ZE, set_cons_succ → ZF, getElem?_toArray → ZG, getElem?_cons_zero → ZH, getElem?_cons_succ → ZJ
open Go.Value renaming int → ZI
open Go.IntKind renaming i64 → ZQ
open Go.RowKit

/-- A packet that was sent. -/
structure Pk where
 num : Int
 time : Int
 size : Int
 el : Bool
 fl : Bool
 ect : Bool
 deriving DecidableEq

namespace Pk
def cells (p : Pk) : List Value := [ZI ZQ p.num, ZI ZQ p.time, ZI ZQ p.size, .bool p.el, .bool p.fl, .bool p.ect]
def may (p : Pk) : Prop := 0 ≤ p.num ∧ p.num ≤ 9007199254740991 ∧ 0 ≤ p.time ∧ p.time ≤ 9007199254740991 ∧ 1 ≤ p.size ∧ p.size ≤ 65535
def zero : Pk := ⟨0, 0, 0, false, false, false⟩
end Pk

/-- A place of the ring. -/
abbrev Sl := Pk × Bool
def slCells (s : Sl) : List Value := [ZI ZQ s.1.num, ZI ZQ s.1.time, ZI ZQ s.1.size, .bool s.1.el, .bool s.1.fl, .bool s.1.ect, .bool s.2]
theorem slCells_length (s : Sl) : (slCells s).length = 7 := rfl

/-- What is under way, in bytes. -/
def flightOf : List Pk → Int
 | [] => 0
 | p :: l => (if p.fl then p.size else 0) + flightOf l
/-- How many of these must be acknowledged. -/
def elicOf : List Pk → Int
 | [] => 0
 | p :: l => (if p.fl && p.el then 1 else 0) + elicOf l

/-- The totals' steps. -/
def totF (f : Bool) (x d : Int) : Int := if f = true then x + d else x
def totE (f e : Bool) (x d : Int) : Int := if f = true then (if e = true then x + d else x) else x

theorem flightOf_append (a b : List Pk) : flightOf (a ++ b) = flightOf a + flightOf b := by
 induction a with
 | nil => simp [flightOf]
 | cons p l ih => simp only [List.cons_append, flightOf, ih]; omega
theorem elicOf_append (a b : List Pk) : elicOf (a ++ b) = elicOf a + elicOf b := by
 induction a with
 | nil => simp [elicOf]
 | cons p l ih => simp only [List.cons_append, elicOf, ih]; omega

/-- The packets that are there, of the live places. -/
def liveOf (q : List Sl) : List Pk := (q.filter (·.2)).map (·.1)

/-- The places from the oldest one on, as the chapter wants them. -/
structure Good (room : Nat) (last : Int) (q : List Sl) : Prop where
 sorted : q.Pairwise fun a b => a.1.num < b.1.num
 may : ∀ s ∈ q, s.1.may
 le : ∀ s ∈ q, s.1.num ≤ last
 head : ∀ s, q.head? = some s → s.2 = true
 room : (liveOf q).length ≤ room
 last : -1 ≤ last ∧ last ≤ 9007199254740991

/-- The ring holds the places q, from 'fr' on. -/
structure Ring (m fr : Nat) (ring q : List Sl) : Prop where
 len : ring.length = m
 long : q.length ≤ m
 frm : fr < m
 at_ : ∀ i, i < q.length → ring[(fr + i) % m]? = q[i]?

/-- The place of the first one whose number is n, or more. -/
def firstAt (n : Int) (q : List Sl) : Nat := (q.takeWhile fun s => decide (s.1.num < n)).length

theorem firstAt_le (n : Int) (q : List Sl) : firstAt n q ≤ q.length := by
 unfold firstAt; exact (List.takeWhile_sublist _).length_le

theorem mod_ne {m fr i j : Nat} (hm : fr < m) (hi : i < m) (hj : j < m) (h : i ≠ j) : (fr + i) % m ≠ (fr + j) % m := by
 intro e
 by_cases h1 : fr + i < m <;> by_cases h2 : fr + j < m
 ·rw [Nat.mod_eq_of_lt h1, Nat.mod_eq_of_lt h2] at e; omega
 ·rw [Nat.mod_eq_of_lt h1, Nat.mod_eq_sub_mod (by omega), Nat.mod_eq_of_lt (by omega)] at e; omega
 ·rw [Nat.mod_eq_of_lt h2, Nat.mod_eq_sub_mod (by omega), Nat.mod_eq_of_lt (by omega)] at e; omega
 ·rw [Nat.mod_eq_sub_mod (by omega), Nat.mod_eq_of_lt (a := fr + i - m) (by omega), Nat.mod_eq_sub_mod (a := fr + j) (by omega), Nat.mod_eq_of_lt (a := fr + j - m) (by omega)] at e; omega

theorem Ring.push {m fr : Nat} {ring q : List Sl} (h : Ring m fr ring q) (hl : q.length < m) (s : Sl) : Ring m fr (ring.set ((fr + q.length) % m) s) (q ++ [s]) := by
 have hm : (fr + q.length) % m < m := Nat.mod_lt _ (by omega)
 refine ⟨by simp [h.len], by simp; omega, h.frm, fun i hi => ?_⟩
 simp only [List.length_append, List.length_cons, List.length_nil] at hi
 by_cases e : i = q.length
 ·subst e
  rw [List.getElem?_set_self (by rw [h.len]; exact hm)]
  simp
 ·have hi' : i < q.length := by omega
  rw [List.getElem?_set_ne (mod_ne h.frm (by omega) (by omega) (fun h => e h.symm)), h.at_ i hi', List.getElem?_append_left hi']

theorem Ring.set {m fr i : Nat} {ring q : List Sl} (h : Ring m fr ring q) (hi : i < q.length) (s : Sl) : Ring m fr (ring.set ((fr + i) % m) s) (q.set i s) := by
 have hll := h.long
 have hm : (fr + i) % m < m := Nat.mod_lt _ (by omega)
 refine ⟨by simp [h.len], by simpa using h.long, h.frm, fun j hj => ?_⟩
 simp only [List.length_set] at hj
 by_cases e : j = i
 ·subst e
  rw [List.getElem?_set_self (by rw [h.len]; exact hm), List.getElem?_set_self hi]
 ·rw [List.getElem?_set_ne (mod_ne h.frm (by omega) (by omega) (fun h => e h.symm)), List.getElem?_set_ne (fun h => e h.symm), h.at_ j hj]

theorem Ring.pop {m fr : Nat} {ring q : List Sl} {s : Sl} (h : Ring m fr ring (s :: q)) : Ring m ((fr + 1) % m) ring q := by
 have hll := h.long
 have hfr := h.frm
 simp only [List.length_cons] at hll
 refine ⟨h.len, by omega, Nat.mod_lt _ (by omega), fun i hi => ?_⟩
 have := h.at_ (i + 1) (by simpa using hi)
 rw [show ((fr + 1) % m + i) % m = (fr + (i + 1)) % m by rw [Nat.mod_add_mod]; congr 1; omega]
 simpa using this
theorem Ring.none_ {m fr : Nat} {ring q : List Sl} (h : Ring m fr ring q) (h0 : 0 < m) : Ring m 0 ring [] :=
 ⟨h.len, by simp, h0, fun i hi => by simp at hi⟩
end Go.Proofs.YtgicljeedegncaaGreat

namespace Go.Proofs.YtgicljeedegncaaGreat
open List renaming set_cons_zero → ZE, set_cons_succ → ZF, getElem?_toArray → ZG, getElem?_cons_zero → ZH, getElem?_cons_succ → ZJ
open Go.Value renaming int → ZI
open Go.IntKind renaming i64 → ZQ
open Go.RowKit

/-- A log, as it lies in memory: its block b, its ring's block rb, of capacity cap, with rest behind the ring. -/
structure LogD (w : World) (b rb m cap : Nat) (rest : List Value) (room : Nat) (last : Int) (fr long many : Nat) (fl el : Int) (ring : List Sl) : Prop where
 blk : Blk w b 119 #[ZI ZQ room, ZI ZQ last, .slice (some ⟨rb, 0, none⟩) m cap, ZI ZQ fr, ZI ZQ long, ZI ZQ many, ZI ZQ fl, ZI ZQ el]
 rng : Blk w rb 137 (ring.flatMap slCells ++ rest).toArray
 m2 : m = 2 * room
 r1 : 1 ≤ room
 r2 : room ≤ 256
def LogC (w : World) (b rb m room : Nat) (last : Int) (fr long many : Nat) (fl el : Int) (ring : List Sl) : Prop := ∃ cap rest, LogD w b rb m cap rest room last fr long many fl el ring

theorem slot_cells {w : World} {g t k : Nat} {r : List Sl} {rest : List Value} {s : Sl} (h : Blk w g t (r.flatMap slCells ++ rest).toArray) (hs : r[k]? = some s) :
  w.cell? ⟨g, k * 7, none⟩ = some (ZI ZQ s.1.num) ∧ w.cell? ⟨g, k * 7 + 1, none⟩ = some (ZI ZQ s.1.time) ∧ w.cell? ⟨g, k * 7 + 2, none⟩ = some (ZI ZQ s.1.size) ∧
  w.cell? ⟨g, k * 7 + 3, none⟩ = some (.bool s.1.el) ∧ w.cell? ⟨g, k * 7 + 4, none⟩ = some (.bool s.1.fl) ∧ w.cell? ⟨g, k * 7 + 5, none⟩ = some (.bool s.1.ect) ∧ w.cell? ⟨g, k * 7 + 6, none⟩ = some (.bool s.2) := by
 have hk : k < r.length := (List.getElem?_eq_some_iff.1 hs).1
 have hl := flat_length slCells 7 slCells_length r
 have H : ∀ j, j < 7 → w.cell? ⟨g, k * 7 + j, none⟩ = (slCells s)[j]? := fun j hj => by
  rw [h.cell, ZG, List.getElem?_append_left (by rw [hl]; omega), flat_cell slCells 7 slCells_length r k j hj, hs]; rfl
 exact ⟨H 0 (by omega), H 1 (by omega), H 2 (by omega), H 3 (by omega), H 4 (by omega), H 5 (by omega), H 6 (by omega)⟩

section
variable {w w' : World} {b rb m room : Nat} {last : Int} {fr long many : Nat} {fl el : Int} {ring : List Sl}
noncomputable def LogC.cap (h : LogC w b rb m room last fr long many fl el ring) : Nat := Classical.choose h
noncomputable def LogC.rest (h : LogC w b rb m room last fr long many fl el ring) : List Value := Classical.choose (Classical.choose_spec h)
theorem LogC.d (h : LogC w b rb m room last fr long many fl el ring) : LogD w b rb m h.cap h.rest room last fr long many fl el ring := Classical.choose_spec (Classical.choose_spec h)
theorem LogC.blk (h : LogC w b rb m room last fr long many fl el ring) : Blk w b 119 #[ZI ZQ room, ZI ZQ last, .slice (some ⟨rb, 0, none⟩) m h.cap, ZI ZQ fr, ZI ZQ long, ZI ZQ many, ZI ZQ fl, ZI ZQ el] := h.d.blk
theorem LogC.rng (h : LogC w b rb m room last fr long many fl el ring) : Blk w rb 137 (ring.flatMap slCells ++ h.rest).toArray := h.d.rng
theorem LogC.m2 (h : LogC w b rb m room last fr long many fl el ring) : m = 2 * room := h.d.m2
theorem LogC.r1 (h : LogC w b rb m room last fr long many fl el ring) : 1 ≤ room := h.d.r1
theorem LogC.r2 (h : LogC w b rb m room last fr long many fl el ring) : room ≤ 256 := h.d.r2
theorem LogC.ne (h : LogC w b rb m room last fr long many fl el ring) : b ≠ rb := by
 rintro rfl
 have h1 := h.blk
 have h2 := h.rng
 unfold Blk at h1 h2
 rw [h1] at h2
 injection h2 with h2
 injection h2 with _ h2
 cases h2
theorem LogC.cell (h : LogC w b rb m room last fr long many fl el ring) (i : Nat) :
  w.cell? ⟨b, i, none⟩ = #[ZI ZQ room, ZI ZQ last, .slice (some ⟨rb, 0, none⟩) m h.cap, ZI ZQ fr, ZI ZQ long, ZI ZQ many, ZI ZQ fl, ZI ZQ el][i]? := h.blk.cell i
theorem LogC.slot (h : LogC w b rb m room last fr long many fl el ring) {k : Nat} {s : Sl} (hs : ring[k]? = some s) :
  w.cell? ⟨rb, k * 7, none⟩ = some (ZI ZQ s.1.num) ∧ w.cell? ⟨rb, k * 7 + 1, none⟩ = some (ZI ZQ s.1.time) ∧ w.cell? ⟨rb, k * 7 + 2, none⟩ = some (ZI ZQ s.1.size) ∧
  w.cell? ⟨rb, k * 7 + 3, none⟩ = some (.bool s.1.el) ∧ w.cell? ⟨rb, k * 7 + 4, none⟩ = some (.bool s.1.fl) ∧ w.cell? ⟨rb, k * 7 + 5, none⟩ = some (.bool s.1.ect) ∧ w.cell? ⟨rb, k * 7 + 6, none⟩ = some (.bool s.2) := slot_cells h.rng hs
theorem LogC.drewN (h : LogC w b rb m room last fr long many fl el ring) (n : Nat) : LogC (w.drewN n) b rb m room last fr long many fl el ring := ⟨_, _, h.blk, h.rng, h.m2, h.r1, h.r2⟩
theorem LogC.drew (h : LogC w b rb m room last fr long many fl el ring) : LogC w.drew b rb m room last fr long many fl el ring := h.drewN 1
theorem LogC.alloc (h : LogC w b rb m room last fr long many fl el ring) (o : Obj) : LogC (w.alloc o) b rb m room last fr long many fl el ring := ⟨_, _, h.blk.alloc o, h.rng.alloc o, h.m2, h.r1, h.r2⟩
theorem LogC.only {S : List Nat} (h : LogC w b rb m room last fr long many fl el ring) (ho : Only S w w') (hb : b ∉ S) (hr : rb ∉ S) : LogC w' b rb m room last fr long many fl el ring :=
 ⟨_, _, ho.blk h.blk hb, ho.blk h.rng hr, h.m2, h.r1, h.r2⟩
theorem LogC.below (h : LogC w b rb m room last fr long many fl el ring) (ho : Below w.heap.size w w') : LogC w' b rb m room last fr long many fl el ring :=
 h.only (S := []) (only_of_below ho) (by simp) (by simp)
theorem LogC.far (h : LogC w b rb m room last fr long many fl el ring) {p : Addr} (hb : b ≠ p.block) (hr : rb ≠ p.block) (u : Value) : LogC (w.setCell p u) b rb m room last fr long many fl el ring :=
 ⟨_, _, h.blk.far hb u, h.rng.far hr u, h.m2, h.r1, h.r2⟩
theorem LogC.setLast (h : LogC w b rb m room last fr long many fl el ring) (x : Int) : LogC (w.setCell ⟨b, 1, none⟩ (ZI ZQ x)) b rb m room x fr long many fl el ring :=
 ⟨h.cap, h.rest, (h.blk.set 1 _).eq (by simp), h.rng.far h.ne.symm _, h.m2, h.r1, h.r2⟩
theorem LogC.setFrom (h : LogC w b rb m room last fr long many fl el ring) {x : Int} {k : Nat} (e : x = (k : Int)) : LogC (w.setCell ⟨b, 3, none⟩ (ZI ZQ x)) b rb m room last k long many fl el ring :=
 ⟨h.cap, h.rest, (h.blk.set 3 _).eq (by simp [e]), h.rng.far h.ne.symm _, h.m2, h.r1, h.r2⟩
theorem LogC.setLong (h : LogC w b rb m room last fr long many fl el ring) {x : Int} {k : Nat} (e : x = (k : Int)) : LogC (w.setCell ⟨b, 4, none⟩ (ZI ZQ x)) b rb m room last fr k many fl el ring :=
 ⟨h.cap, h.rest, (h.blk.set 4 _).eq (by simp [e]), h.rng.far h.ne.symm _, h.m2, h.r1, h.r2⟩
theorem LogC.setMany (h : LogC w b rb m room last fr long many fl el ring) {x : Int} {k : Nat} (e : x = (k : Int)) : LogC (w.setCell ⟨b, 5, none⟩ (ZI ZQ x)) b rb m room last fr long k fl el ring :=
 ⟨h.cap, h.rest, (h.blk.set 5 _).eq (by simp [e]), h.rng.far h.ne.symm _, h.m2, h.r1, h.r2⟩
theorem LogC.setFlight (h : LogC w b rb m room last fr long many fl el ring) (x : Int) : LogC (w.setCell ⟨b, 6, none⟩ (ZI ZQ x)) b rb m room last fr long many x el ring :=
 ⟨h.cap, h.rest, (h.blk.set 6 _).eq (by simp), h.rng.far h.ne.symm _, h.m2, h.r1, h.r2⟩
theorem LogC.setElic (h : LogC w b rb m room last fr long many fl el ring) (x : Int) : LogC (w.setCell ⟨b, 7, none⟩ (ZI ZQ x)) b rb m room last fr long many fl x ring :=
 ⟨h.cap, h.rest, (h.blk.set 7 _).eq (by simp), h.rng.far h.ne.symm _, h.m2, h.r1, h.r2⟩
end

theorem none_no (b room : Nat) (w : World) (h : w.cell? ⟨b, 0, none⟩ = some (ZI ZQ room)) (h1 : 1 ≤ room) :
  Calls Tryz.prog 99 #[.pointer (some ⟨b, 0, none⟩)] w fun e w' => e = .returned (.bool false) ∧ w = w' := by
 have h2 : ((room : Int) == 0) = false := by rw [beq_eq_false_iff_ne]; omega
 go_enter Tryz.func99, Tryz.ntmps99
 go_wp2
 go_ret
 exact ⟨rfl, rfl⟩

set_option maxHeartbeats 400000 in
theorem at_any (b rb m fr i : Nat) {cap : Nat} (w : World) (h2 : w.cell? ⟨b, 2, none⟩ = some (.slice (some ⟨rb, 0, none⟩) m cap)) (h3 : w.cell? ⟨b, 3, none⟩ = some (ZI ZQ fr))
  (hm : 1 ≤ m) (hm2 : m ≤ 512) (hfr : fr ≤ 512) (hi : i ≤ 512) :
  Calls Tryz.prog 110 #[.pointer (some ⟨b, 0, none⟩), ZI ZQ i] w fun e w' => e = .returned (.pointer (some ⟨rb, (fr + i) % m * 7, none⟩)) ∧ ∃ n, w' = w.drewN n := by
 obtain ⟨H1, H2⟩ := emod_bounds fr i m hm
 go_enter Tryz.func110, Tryz.ntmps110
 go_wp2
 go_quiet (fail)
 go_wp2
 go_ret
 exact ⟨rfl, _, rfl⟩

set_option maxHeartbeats 400000 in
theorem find1_any (a1 a2 : Addr) (b rb m fr i : Nat) {cap : Nat} (n x : Int) (w : World) (ha : w.cell? a1 = some (.pointer (some ⟨b, 0, none⟩))) (hn : w.cell? a2 = some (ZI ZQ n))
  (h2 : w.cell? ⟨b, 2, none⟩ = some (.slice (some ⟨rb, 0, none⟩) m cap)) (h3 : w.cell? ⟨b, 3, none⟩ = some (ZI ZQ fr))
  (hm : 1 ≤ m) (hm2 : m ≤ 512) (hfr : fr ≤ 512) (hi : i ≤ 512) (hc : w.cell? ⟨rb, (fr + i) % m * 7, none⟩ = some (ZI ZQ x)) :
  Calls Tryz.prog 184 #[ZI ZQ i, .pointer (some a1), .pointer (some a2)] w fun e w' => e = .returned (.bool (decide (n ≤ x))) ∧ ∃ n, w' = w.drewN n := by
 go_enter Tryz.func184, Tryz.ntmps184
 go_wp2
 go_quiet ((go_at_call 110; exact Calls.quiet_of (at_any b rb m fr i _ h2 h3 hm hm2 hfr hi)))
 go_wp2
 go_ret
 exact ⟨rfl, _, rfl⟩
end Go.Proofs.YtgicljeedegncaaGreat

namespace Go.Proofs.YtgicljeedegncaaGreat
open List renaming set_cons_zero → ZE, set_cons_succ → ZF, getElem?_toArray → ZG, getElem?_cons_zero → ZH, getElem?_cons_succ → ZJ
open Go.Value renaming int → ZI
open Go.IntKind renaming i64 → ZQ
open Go.RowKit

set_option maxHeartbeats 1000000 in
/-- sort.Search over the log's closure: the boundary of a predicate that does not fall back. -/
theorem search_any (a1 a2 : Addr) (n k : Nat) (p : Nat → Bool) (w : World) (hsz : n ≤ 4611686018427387904)
  (hf : ∀ (q i : Nat), i < n → Calls Tryz.prog 184 #[ZI ZQ i, .pointer (some a1), .pointer (some a2)] (w.drewN q) fun e w' => e = .returned (.bool (p i)) ∧ ∃ q', w' = (w.drewN q).drewN q')
  (hk : k ≤ n) (h1 : ∀ i, i < k → p i = false) (h2 : ∀ i, k ≤ i → i < n → p i = true) :
  Calls Tryz.prog 115 #[ZI ZQ n, .func (.func 184) #[] #[.pointer (some a1), .pointer (some a2)]] w fun e w' => e = .returned (ZI ZQ k) ∧ ∃ q, w' = w.drewN q := by
 have HF := hide hf
 have M1 := hide h1
 have M2 := hide h2
 clear hf h1 h2
 go_enter Tryz.func115, Tryz.ntmps115
 go_wp2
 go_loopg [5, 6] n (fun kx s5 s6 wr => ∃ (lo hi q : Nat), s5 = ZI ZQ lo ∧ s6 = ZI ZQ hi ∧ lo ≤ k ∧ k ≤ hi ∧ hi ≤ n ∧ hi - lo ≤ kx ∧ wr = w.drewN q)
 case atStart => exact ⟨0, n, 0, rfl, rfl, Nat.zero_le _, hk, Nat.le_refl _, by omega, rfl⟩
 case round =>
  obtain ⟨lo, hi, q, rfl, rfl, hlk, hkh, hin, hg, rfl⟩ := hrel
  by_cases hlt : lo < hi
  ·have hc := HF.out q ((lo + hi) / 2) (by omega)
   rw [show (((lo + hi) / 2 : Nat) : Int) = ((lo : Int) + (hi : Int)) / 2 by omega] at hc
   cases hp : p ((lo + hi) / 2) <;> rw [hp] at hc
   ·have hlo : (lo + hi) / 2 < k := by
     rcases Nat.lt_or_ge ((lo + hi) / 2) k with h | h
     ·exact h
     ·have := M2.out _ h (by omega); rw [hp] at this; cases this
    have HP := hide hp
    clear hp
    go_wp2_with (go_at_call 184; refine hc.mono ?_; rintro e w' ⟨rfl, nq, rfl⟩)
    go_roundg (hi - ((lo + hi) / 2 + 1))
    case measure => omega
    case rel => exact ⟨(lo + hi) / 2 + 1, hi, q + nq, by rw [show ((lo : Int) + (hi : Int)) / 2 + 1 = (((lo + hi) / 2 + 1 : Nat) : Int) by omega], rfl, by omega, hkh, hin, Nat.le_refl _, by simp⟩
   ·have hhi : k ≤ (lo + hi) / 2 := by
     rcases Nat.lt_or_ge ((lo + hi) / 2) k with h | h
     ·have := M1.out _ h; rw [hp] at this; cases this
     ·exact h
    have HP := hide hp
    clear hp
    go_wp2_with (go_at_call 184; refine hc.mono ?_; rintro e w' ⟨rfl, nq, rfl⟩)
    go_roundg ((lo + hi) / 2 - lo)
    case measure => omega
    case rel => exact ⟨lo, (lo + hi) / 2, q + nq, rfl, by rw [show ((lo : Int) + (hi : Int)) / 2 = (((lo + hi) / 2 : Nat) : Int) by omega], by omega, by omega, by omega, Nat.le_refl _, by simp⟩
  ·obtain rfl : hi = k := by omega
   obtain rfl : lo = hi := by omega
   go_wp2
   go_ret
   exact ⟨rfl, q, rfl⟩

/-- The places' numbers rise: where the first one of number n, or more, lies. -/
theorem firstAt_lt {n : Int} : ∀ {q : List Sl} {i : Nat} {s : Sl}, i < firstAt n q → q[i]? = some s → s.1.num < n
 | [], i, s, _, h => by simp at h
 | x :: q, i, s, hi, h => by
  unfold firstAt at hi
  rw [List.takeWhile_cons] at hi
  split at hi
  ·rename_i hx
   cases i with
   | zero => simp at h; subst h; simpa using hx
   | succ i => exact firstAt_lt (q := q) (i := i) (by unfold firstAt; simpa using hi) (by simpa using h)
  ·simp at hi
theorem firstAt_ge {n : Int} : ∀ {q : List Sl} {i : Nat} {s : Sl}, (q.Pairwise fun a b => a.1.num < b.1.num) → firstAt n q ≤ i → q[i]? = some s → n ≤ s.1.num
 | [], i, s, _, _, h => by simp at h
 | x :: q, i, s, hp, hi, h => by
  have hp' := List.pairwise_cons.1 hp
  unfold firstAt at hi
  rw [List.takeWhile_cons] at hi
  split at hi
  ·cases i with
   | zero => simp at hi
   | succ i => exact firstAt_ge (q := q) (i := i) hp'.2 (by unfold firstAt; simpa using hi) (by simpa using h)
  ·rename_i hx
   have hx' : n ≤ x.1.num := by simpa using hx
   cases i with
   | zero => simp at h; subst h; exact hx'
   | succ i =>
    have hm : s ∈ q := List.mem_of_getElem? (i := i) (by simpa using h)
    have := hp'.1 s hm
    omega

set_option maxHeartbeats 400000 in
theorem find_any {w : World} {b rb m room : Nat} {last : Int} {fr many : Nat} {fl el : Int} {ring q : List Sl} (n : Int) (h : LogC w b rb m room last fr q.length many fl el ring) (hr : Ring m fr ring q)
  (hs : q.Pairwise fun a b => a.1.num < b.1.num) :
  Calls Tryz.prog 170 #[.pointer (some ⟨b, 0, none⟩), ZI ZQ n] w fun e w' => e = .returned (ZI ZQ (firstAt n q)) ∧ Below w.heap.size w w' := by
 have h4 : w.cell? ⟨b, 4, none⟩ = some (ZI ZQ q.length) := h.cell 4
 have hb := h.blk.lt
 have hrb := h.rng.lt
 have hm := h.m2
 have hr1 := h.r1
 have hr2 := h.r2
 have hq := hr.long
 have hf := hr.frm
 have HS : ∀ (d : Nat) (i : Nat), i < q.length → Calls Tryz.prog 184 #[ZI ZQ i, .pointer (some ⟨w.heap.size, 0, none⟩), .pointer (some ⟨w.heap.size + 1, 0, none⟩)]
   (((w.alloc (.cells #[.pointer (some ⟨b, 0, none⟩)] 75)).alloc (.cells #[ZI ZQ n] 3)).drewN d) fun e w' => e = .returned (.bool (decide (n ≤ ((q[i]?).map (·.1.num)).getD 0))) ∧ ∃ d', w' = (((w.alloc (.cells #[.pointer (some ⟨b, 0, none⟩)] 75)).alloc (.cells #[ZI ZQ n] 3)).drewN d).drewN d' := by
  intro d i hi
  have hat := hr.at_ i hi
  have hs : q[i]? = some q[i] := List.getElem?_eq_getElem hi
  rw [hs] at hat
  obtain ⟨s0, _⟩ := h.slot hat
  have H2 : w.cell? ⟨b, 2, none⟩ = some (.slice (some ⟨rb, 0, none⟩) m h.cap) := h.cell 2
  have H3 : w.cell? ⟨b, 3, none⟩ = some (ZI ZQ fr) := h.cell 3
  rw [hs]
  refine find1_any (cap := h.cap) _ _ b rb m fr i n _ _ ?_ ?_ ?_ ?_ (by omega) (by omega) (by omega) (by omega) ?_
  ·rw [World.cell?_drewN, World.cell?_alloc_lt _ _ _ (by simp), World.cell?_alloc_new]; rfl
  ·rw [World.cell?_drewN, World.cell?_alloc_at _ _ _ _ (by simp)]; rfl
  ·rw [World.cell?_drewN, World.cell?_alloc_lt _ _ _ (by simp; omega), World.cell?_alloc_lt _ _ _ hb]; exact H2
  ·rw [World.cell?_drewN, World.cell?_alloc_lt _ _ _ (by simp; omega), World.cell?_alloc_lt _ _ _ hb]; exact H3
  ·rw [World.cell?_drewN, World.cell?_alloc_lt _ _ _ (by simp; omega), World.cell?_alloc_lt _ _ _ hrb]; exact s0
 have hc := search_any ⟨w.heap.size, 0, none⟩ ⟨w.heap.size + 1, 0, none⟩ q.length (firstAt n q) (fun i => decide (n ≤ ((q[i]?).map (·.1.num)).getD 0)) _ (by omega) HS (firstAt_le n q)
  (fun i hi => by
   have hl : i < q.length := Nat.lt_of_lt_of_le hi (firstAt_le n q)
   have := firstAt_lt hi (List.getElem?_eq_getElem hl)
   simp [List.getElem?_eq_getElem hl]; omega)
  (fun i hi hl => by
   have := firstAt_ge hs hi (List.getElem?_eq_getElem hl)
   simp [List.getElem?_eq_getElem hl]; omega)
 have HC := hide hc
 clear hc HS
 go_enter Tryz.func170, Tryz.ntmps170
 go_wp2_with (go_at_call 115; refine HC.out.mono ?_; rintro e w' ⟨rfl, nq, rfl⟩)
 go_ret
 exact ⟨rfl, below_drewN ((((Below.refl _ _).alloc (Nat.le_refl _) _)).alloc (by simp) _) _⟩
end Go.Proofs.YtgicljeedegncaaGreat

namespace Go.Proofs.YtgicljeedegncaaGreat
open List renaming set_cons_zero → ZE, set_cons_succ → ZF, getElem?_toArray → ZG, getElem?_cons_zero → ZH, getElem?_cons_succ → ZJ
open Go.Value renaming int → ZI
open Go.IntKind renaming i64 → ZQ

theorem liveOf_cons (s : Sl) (q : List Sl) : liveOf (s :: q) = if s.2 = true then s.1 :: liveOf q else liveOf q := by
 unfold liveOf
 rw [List.filter_cons]
 split <;> rfl
theorem mem_live {q : List Sl} {p : Pk} (h : p ∈ liveOf q) : (p, true) ∈ q := by
 obtain ⟨s, hs, rfl⟩ := List.mem_map.1 h
 obtain ⟨h1, h2⟩ := List.mem_filter.1 hs
 have : s = (s.1, true) := Prod.ext rfl h2
 rw [← this]; exact h1
theorem live_sorted {q : List Sl} (h : q.Pairwise fun a b => a.1.num < b.1.num) : (liveOf q).Pairwise fun a b => a.num < b.num := by
 unfold liveOf
 rw [List.pairwise_map]
 exact h.sublist List.filter_sublist
theorem find_none_of_gt {n : Int} {ps : List Pk} (h : ∀ p ∈ ps, n < p.num) : ps.find? (fun p => p.num == n) = none := by
 rw [List.find?_eq_none]
 intro p hp
 have := h p hp
 simp; omega

/-- The packet of number n that is there: what lies at the first place of number n, or more. -/
theorem find_at (n : Int) : ∀ (q : List Sl), (q.Pairwise fun a b => a.1.num < b.1.num) →
  (liveOf q).find? (fun p => p.num == n) = match q[firstAt n q]? with
   | some s => if s.1.num = n ∧ s.2 = true then some s.1 else none
   | none => none
 | [], _ => by simp [liveOf, firstAt]
 | x :: q, h => by
  obtain ⟨h1, h2⟩ := List.pairwise_cons.1 h
  have ih := find_at n q h2
  rw [liveOf_cons]
  by_cases hx : x.1.num < n
  ·have e : firstAt n (x :: q) = firstAt n q + 1 := by unfold firstAt; rw [List.takeWhile_cons]; simp [hx]
   have hb : (x.1.num == n) = false := by simp; omega
   rw [e, ZJ]
   split
   ·rw [List.find?_cons, hb]; exact ih
   ·exact ih
  ·have e : firstAt n (x :: q) = 0 := by unfold firstAt; rw [List.takeWhile_cons]; simp [hx]
   rw [e, ZH]
   have hgt : ∀ p ∈ liveOf q, n < p.num := fun p hp => by have := h1 _ (mem_live hp); simp only at this; omega
   have hn := find_none_of_gt hgt
   by_cases hxn : x.1.num = n
   ·by_cases hx2 : x.2 = true
    ·rw [if_pos hx2, List.find?_cons]; simp [hxn, hx2]
    ·rw [if_neg hx2, hn]; simp [hx2]
   ·have hb : (x.1.num == n) = false := by simpa using hxn
    simp only [hxn, false_and, if_false]
    split
    ·rw [List.find?_cons, hb]; exact hn
    ·exact hn

/-- All but the one of number n. -/
def without (n : Int) (ps : List Pk) : List Pk := ps.filter fun p => p.num != n

theorem without_id {n : Int} {ps : List Pk} (h : ∀ p ∈ ps, p.num ≠ n) : without n ps = ps := by
 unfold without
 rw [List.filter_eq_self]
 intro p hp
 simpa using h p hp

theorem without_at : ∀ {q : List Sl} {i : Nat} {p : Pk}, (q.Pairwise fun a b => a.1.num < b.1.num) → q[i]? = some (p, true) → liveOf (q.set i (p, false)) = without p.num (liveOf q)
 | [], i, p, _, h => by simp at h
 | x :: q, 0, p, hs, h => by
  have hx : x = (p, true) := by simpa using h
  subst hx
  obtain ⟨h1, h2⟩ := List.pairwise_cons.1 hs
  rw [ZE, liveOf_cons, liveOf_cons]
  simp only [Bool.false_eq_true, if_false, if_true]
  unfold without
  rw [List.filter_cons]
  simp only [bne_self_eq_false, Bool.false_eq_true, if_false]
  symm
  exact without_id fun p' hp' => by have := h1 _ (mem_live hp'); simp only at this; omega
 | x :: q, i + 1, p, hs, h => by
  obtain ⟨h1, h2⟩ := List.pairwise_cons.1 hs
  have hq : q[i]? = some (p, true) := by simpa using h
  have ih := without_at h2 hq
  have hlt := h1 _ (List.mem_of_getElem? hq)
  simp only at hlt
  rw [ZF, liveOf_cons, liveOf_cons, ih]
  unfold without
  split
  ·rw [List.filter_cons, if_pos (by simp; omega)]
  ·rfl

theorem flight_without {n : Int} : ∀ {ps : List Pk} {p : Pk}, (ps.Pairwise fun a b => a.num < b.num) → p ∈ ps → p.num = n → flightOf (without n ps) = totF p.fl (flightOf ps) (-p.size)
 | [], p, _, h, _ => by simp at h
 | x :: ps, p, hs, h, hn => by
  obtain ⟨h1, h2⟩ := List.pairwise_cons.1 hs
  rcases List.mem_cons.1 h with rfl | h
  ·have e : without n (p :: ps) = ps := by
    unfold without
    rw [List.filter_cons, if_neg (by simp [hn])]
    exact without_id fun p' hp' => by have := h1 _ hp'; omega
   rw [e]; unfold totF; simp only [flightOf]; split <;> omega
  ·have hlt := h1 p h
   have e : without n (x :: ps) = x :: without n ps := by unfold without; rw [List.filter_cons, if_pos (by simp; omega)]
   have ih := flight_without h2 h hn
   rw [e]; unfold totF at *; simp only [flightOf, ih]; split <;> split <;> omega
theorem elic_without {n : Int} : ∀ {ps : List Pk} {p : Pk}, (ps.Pairwise fun a b => a.num < b.num) → p ∈ ps → p.num = n → elicOf (without n ps) = totE p.fl p.el (elicOf ps) (-1)
 | [], p, _, h, _ => by simp at h
 | x :: ps, p, hs, h, hn => by
  obtain ⟨h1, h2⟩ := List.pairwise_cons.1 hs
  rcases List.mem_cons.1 h with rfl | h
  ·have e : without n (p :: ps) = ps := by
    unfold without
    rw [List.filter_cons, if_neg (by simp [hn])]
    exact without_id fun p' hp' => by have := h1 _ hp'; omega
   rw [e]; unfold totE; simp only [elicOf]; cases p.fl <;> cases p.el <;> simp <;> omega
  ·have hlt := h1 p h
   have e : without n (x :: ps) = x :: without n ps := by unfold without; rw [List.filter_cons, if_pos (by simp; omega)]
   have ih := elic_without h2 h hn
   rw [e]; unfold totE at *; simp only [elicOf, ih]; cases p.fl <;> cases p.el <;> simp <;> omega
theorem length_without {n : Int} : ∀ {ps : List Pk} {p : Pk}, (ps.Pairwise fun a b => a.num < b.num) → p ∈ ps → p.num = n → (without n ps).length + 1 = ps.length
 | [], p, _, h, _ => by simp at h
 | x :: ps, p, hs, h, hn => by
  obtain ⟨h1, h2⟩ := List.pairwise_cons.1 hs
  rcases List.mem_cons.1 h with rfl | h
  ·have e : without n (p :: ps) = ps := by
    unfold without
    rw [List.filter_cons, if_neg (by simp [hn])]
    exact without_id fun p' hp' => by have := h1 _ hp'; omega
   rw [e]; rfl
  ·have hlt := h1 p h
   have e : without n (x :: ps) = x :: without n ps := by unfold without; rw [List.filter_cons, if_pos (by simp; omega)]
   have ih := length_without h2 h hn
   rw [e]; simp only [List.length_cons]; omega

theorem map_set_fst {q : List Sl} {i : Nat} {p : Pk} {b c : Bool} (h : q[i]? = some (p, b)) : (q.set i (p, c)).map (·.1) = q.map (·.1) := by
 obtain ⟨hl, he⟩ := List.getElem?_eq_some_iff.1 h
 apply List.ext_getElem?
 intro j
 rw [List.getElem?_map, List.getElem?_map, List.getElem?_set]
 split
 ·rename_i e
  subst e
  simp [hl, he]
 ·rfl
theorem good_after {room : Nat} {last : Int} {q q2 : List Sl} {i : Nat} {p : Pk} (h : Good room last q) (hp : q[i]? = some (p, true)) (hs : q2 <:+ q.set i (p, false)) (hl : liveOf q2 = liveOf (q.set i (p, false)))
  (hh : ∀ s, q2.head? = some s → s.2 = true) : Good room last q2 := by
 have hm := map_set_fst (c := false) hp
 have hmem : ∀ s ∈ q.set i (p, false), ∃ s' ∈ q, s'.1 = s.1 := fun s hs => by
  have h1 : s.1 ∈ (q.set i (p, false)).map (·.1) := List.mem_map_of_mem hs
  rw [hm] at h1
  obtain ⟨s', h2, h3⟩ := List.mem_map.1 h1
  exact ⟨s', h2, h3⟩
 refine ⟨?_, fun s hs2 => ?_, fun s hs2 => ?_, hh, ?_, h.last⟩
 ·have h1 : ((q.set i (p, false)).map (·.1)).Pairwise fun a b => a.num < b.num := by rw [hm, List.pairwise_map]; exact h.sorted
  rw [List.pairwise_map] at h1
  exact h1.sublist hs.sublist
 ·obtain ⟨s', h1, h2⟩ := hmem s (hs.subset hs2)
  rw [← h2]; exact h.may s' h1
 ·obtain ⟨s', h1, h2⟩ := hmem s (hs.subset hs2)
  rw [← h2]; exact h.le s' h1
 ·rw [hl, without_at h.sorted hp]
  have := h.room
  have h2 : (without p.num (liveOf q)).length ≤ (liveOf q).length := List.length_filter_le _ _
  omega
end Go.Proofs.YtgicljeedegncaaGreat
