/-
  The packets' log (package sent): how a log lies in memory, and the plain law of its ring. No walk here.
-/
import Derived.Test.YtcigkggdcogokaaBase
namespace Go.Proofs.Ytcigkggdcogokaa
open Go.RowKit

/-- A packet that was sent. -/
structure Pk where
  num : Int
  time : Int
  size : Int
  el : Bool
  fl : Bool
  ect : Bool
  deriving DecidableEq

namespace Pk
def cells (p : Pk) : List Value := [.int .i64 p.num, .int .i64 p.time, .int .i64 p.size, .bool p.el, .bool p.fl, .bool p.ect]
def may (p : Pk) : Prop := 0 ≤ p.num ∧ p.num ≤ 9007199254740991 ∧ 0 ≤ p.time ∧ p.time ≤ 9007199254740991 ∧ 1 ≤ p.size ∧ p.size ≤ 65535
def zero : Pk := ⟨0, 0, 0, false, false, false⟩
end Pk

/-- A place of the ring. -/
abbrev Sl := Pk × Bool
def slCells (s : Sl) : List Value := [.int .i64 s.1.num, .int .i64 s.1.time, .int .i64 s.1.size, .bool s.1.el, .bool s.1.fl, .bool s.1.ect, .bool s.2]
theorem slCells_length (s : Sl) : (slCells s).length = 7 := rfl

/-- What is under way, in bytes. -/
def flightOf : List Pk → Int
  | [] => 0
  | p :: l => (if p.fl then p.size else 0) + flightOf l
/-- How many of these must be acknowledged. -/
def elicOf : List Pk → Int
  | [] => 0
  | p :: l => (if p.fl && p.el then 1 else 0) + elicOf l

/-- The totals' steps. -/
def totF (f : Bool) (x d : Int) : Int := if f = true then x + d else x
def totE (f e : Bool) (x d : Int) : Int := if f = true then (if e = true then x + d else x) else x

theorem flightOf_append (a b : List Pk) : flightOf (a ++ b) = flightOf a + flightOf b := by
  induction a with
  | nil => simp [flightOf]
  | cons p l ih => simp only [List.cons_append, flightOf, ih]; omega
theorem elicOf_append (a b : List Pk) : elicOf (a ++ b) = elicOf a + elicOf b := by
  induction a with
  | nil => simp [elicOf]
  | cons p l ih => simp only [List.cons_append, elicOf, ih]; omega

/-- The packets that are there, of the live places. -/
def liveOf (q : List Sl) : List Pk := (q.filter (·.2)).map (·.1)

/-- The places from the oldest one on, as the chapter wants them. -/
structure Good (room : Nat) (last : Int) (q : List Sl) : Prop where
  sorted : q.Pairwise fun a b => a.1.num < b.1.num
  may : ∀ s ∈ q, s.1.may
  le : ∀ s ∈ q, s.1.num ≤ last
  head : ∀ s, q.head? = some s → s.2 = true
  room : (liveOf q).length ≤ room
  last : -1 ≤ last ∧ last ≤ 9007199254740991

/-- The ring holds the places q, from 'fr' on. -/
structure Ring (m fr : Nat) (ring q : List Sl) : Prop where
  len : ring.length = m
  long : q.length ≤ m
  frm : fr < m
  at_ : ∀ i, i < q.length → ring[(fr + i) % m]? = q[i]?

/-- The place of the first one whose number is n, or more. -/
def firstAt (n : Int) (q : List Sl) : Nat := (q.takeWhile fun s => decide (s.1.num < n)).length

theorem firstAt_le (n : Int) (q : List Sl) : firstAt n q ≤ q.length := by
  unfold firstAt; exact (List.takeWhile_sublist _).length_le

theorem mod_ne {m fr i j : Nat} (hm : fr < m) (hi : i < m) (hj : j < m) (h : i ≠ j) : (fr + i) % m ≠ (fr + j) % m := by
  intro e
  by_cases h1 : fr + i < m <;> by_cases h2 : fr + j < m
  · rw [Nat.mod_eq_of_lt h1, Nat.mod_eq_of_lt h2] at e; omega
  · rw [Nat.mod_eq_of_lt h1, Nat.mod_eq_sub_mod (by omega), Nat.mod_eq_of_lt (by omega)] at e; omega
  · rw [Nat.mod_eq_of_lt h2, Nat.mod_eq_sub_mod (by omega), Nat.mod_eq_of_lt (by omega)] at e; omega
  · rw [Nat.mod_eq_sub_mod (by omega), Nat.mod_eq_of_lt (a := fr + i - m) (by omega), Nat.mod_eq_sub_mod (a := fr + j) (by omega), Nat.mod_eq_of_lt (a := fr + j - m) (by omega)] at e; omega

theorem Ring.push {m fr : Nat} {ring q : List Sl} (h : Ring m fr ring q) (hl : q.length < m) (s : Sl) : Ring m fr (ring.set ((fr + q.length) % m) s) (q ++ [s]) := by
  have hm : (fr + q.length) % m < m := Nat.mod_lt _ (by omega)
  refine ⟨by simp [h.len], by simp; omega, h.frm, fun i hi => ?_⟩
  simp only [List.length_append, List.length_cons, List.length_nil] at hi
  by_cases e : i = q.length
  · subst e
    rw [List.getElem?_set_self (by rw [h.len]; exact hm)]
    simp
  · have hi' : i < q.length := by omega
    rw [List.getElem?_set_ne (mod_ne h.frm (by omega) (by omega) (fun h => e h.symm)), h.at_ i hi', List.getElem?_append_left hi']

theorem Ring.set {m fr i : Nat} {ring q : List Sl} (h : Ring m fr ring q) (hi : i < q.length) (s : Sl) : Ring m fr (ring.set ((fr + i) % m) s) (q.set i s) := by
  have hll := h.long
  have hm : (fr + i) % m < m := Nat.mod_lt _ (by omega)
  refine ⟨by simp [h.len], by simpa using h.long, h.frm, fun j hj => ?_⟩
  simp only [List.length_set] at hj
  by_cases e : j = i
  · subst e
    rw [List.getElem?_set_self (by rw [h.len]; exact hm), List.getElem?_set_self hi]
  · rw [List.getElem?_set_ne (mod_ne h.frm (by omega) (by omega) (fun h => e h.symm)), List.getElem?_set_ne (fun h => e h.symm), h.at_ j hj]

theorem Ring.pop {m fr : Nat} {ring q : List Sl} {s : Sl} (h : Ring m fr ring (s :: q)) : Ring m ((fr + 1) % m) ring q := by
  have hll := h.long
  have hfr := h.frm
  simp only [List.length_cons] at hll
  refine ⟨h.len, by omega, Nat.mod_lt _ (by omega), fun i hi => ?_⟩
  have := h.at_ (i + 1) (by simpa using hi)
  rw [show ((fr + 1) % m + i) % m = (fr + (i + 1)) % m by rw [Nat.mod_add_mod]; congr 1; omega]
  simpa using this
theorem Ring.none_ {m fr : Nat} {ring q : List Sl} (h : Ring m fr ring q) (h0 : 0 < m) : Ring m 0 ring [] :=
  ⟨h.len, by simp, h0, fun i hi => by simp at hi⟩
end Go.Proofs.Ytcigkggdcogokaa
