/-
 Layer 24 (judge): what a row does, as far as the statements on pace ask; its contract.
-/
import Derived.Test.YtidfngcclbhoaaaJgRowK
import Derived.Test.YtidfngcclbhoaaaJgSends
import Derived.Test.YtidfngcclbhoaaaJgSendsL
import Derived.Test.YtidfngcclbhoaaaJgEventA
import Derived.Test.YtidfngcclbhoaaaJgEventW
import Derived.Test.YtidfngcclbhoaaaJgAcks
import Derived.Test.YtidfngcclbhoaaaJgLook
namespace Go.Proofs.Ytidfngcclbhoaaa
set_option linter.unusedSimpArgs false
set_option linter.unusedVariables false
open Go.RowKit Go.Shelf
def sendsQ (k : KN) (r : RW) : Except Int KN := if r.o.num ≤ k.last 0 then .error 4 else if plainOk k r.o r.t then .ok (sentK k r.o r.t) else .error 8
def hi0 (rs : List RGJ) : Int := (rs[0]?.map RGJ.hi).getD 0
def rowQ (k : KN) (x : RR) : Except Int KN :=
 if x.r.t < k.t then .error 3
 else if x.r.kind = 1 then goesP x.r x.rs x.es (sendsQ { k with t := x.r.t } x.r)
 else goesP x.r x.rs x.es (.ok (ackK { k with t := x.r.t } (hi0 x.rs)))
/-- What is known is in its bounds. -/
structure KnOk (k : KN) : Prop where
 shut : k.shut = false
 valid : k.valid = true
 fl : ∀ p ∈ k.flying, okP p
 fln : k.flying.length ≤ 1900
 pd : ∀ p ∈ k.paced, okPcd p
 pdn : k.paced.length ≤ 1900
 pi : ∀ p ∈ k.pieces, okPie p
 pin : k.pieces.length ≤ 1900
 d : 0 ≤ k.c.d ∧ k.c.d ≤ 65527
 win : k.window ≤ 1099511627776
/-- A row that the contract speaks of. -/
structure RowOk (k : KN) (x : RR) : Prop where
 err : x.r.err = 0
 en : x.es.length = x.r.en
 enl : x.r.en ≤ 2000
 rn : x.rs.length = x.r.rn
 rnl : x.r.rn ≤ 2000
 cl : x.es.any closesP = false
 t : 0 ≤ x.r.t ∧ x.r.t ≤ 68719476736
 how : (x.r.kind = 1 ∧ x.es = [] ∧ x.r.o.sp = 0 ∧ (0 ≤ x.r.o.num ∧ x.r.o.num ≤ 9007199254740991) ∧ (1 ≤ x.r.o.size ∧ x.r.o.size ≤ k.c.d) ∧ x.r.o.fl = true ∧ x.r.o.pr = false ∧ (k.last 0 < x.r.o.num → flightP k.flying + x.r.o.size ≤ k.window)) ∨
  (x.r.kind = 2 ∧ x.r.sp = 0 ∧ x.rs ≠ [] ∧ ∀ e ∈ x.es, e.kind = 1 ∨ e.kind = 4)
theorem event_keeps {k k2 : KN} {r : RW} {rs : List RGJ} {e : EVJ} (h : eventP k r rs e = .ok k2) : k2.c = k.c ∧ k2.pieces = k.pieces ∧ k2.flying.length ≤ k.flying.length := by
 have hg : ∀ i, (k.flying.eraseIdx i).length ≤ k.flying.length := fun i => by rw [List.length_eraseIdx]; split <;> omega
 unfold eventP at h
 repeat' split at h
 all_goals first | (cases h; done) | (injection h with h; subst h; first | exact ⟨rfl, rfl, hg _⟩ | exact ⟨rfl, rfl, Nat.le_refl _⟩)
theorem rowq_any (b base : Nat) (k : KN) (vf vp vd : Value) (x : RR) (w : World) (hK : KnAt w b base k vf vp vd) (hE : LieAt evL 4 w base x.r.ea x.es) (hR : LieAt rgL 2 w base x.r.ra x.rs) (hk : KnOk k) (hx : RowOk k x) :
  Calls Try.prog 15 #[.pointer (some ⟨b, 0, none⟩), .agg (rwC x.r)] w (RowPost b base w (rowQ k x)) := by
 obtain ⟨r, es, rs⟩ := x
 have ht9 : 0 ≤ r.t ∧ r.t ≤ 9007199254740991 := ⟨hx.t.1, by have := hx.t.2; simp at this; omega⟩
 by_cases hl : r.t < k.t
 ·have := row_late b base k vf vp vd r rs es w hK hR hE hx.en hx.enl hk.shut hx.err hx.cl ht9 hl
  rw [show rowQ k ⟨r, es, rs⟩ = .error 3 from if_pos hl]
  exact this
 ·rcases hx.how with ⟨hk1, he, hsp, hnum, hsz, hfl, hpr, hfw⟩ | ⟨hk2, hsp, hne, hev⟩
  ·simp only at hk1 he hsp hnum hsz hfl hpr hfw
   rw [show rowQ k ⟨r, es, rs⟩ = goesP r rs es (sendsQ { k with t := r.t } r) from by unfold rowQ; rw [if_neg hl, if_pos hk1]]
   have he' : r.en = 0 := by have := hx.en; simp only at this; rw [he] at this; simpa using this.symm
   refine row_sends b base k vf vp vd r rs es w hK hR hE hx.en hx.enl hk.shut hx.err hx.cl ht9 hk1 (by omega) (sendsQ { k with t := r.t } r) (fun k1 => k1.pieces.length ≤ 1900) ?_ ?_ ?_ (fun k1 h => h) ?_
   ·intro W hKW hRW
    by_cases hlow : r.o.num ≤ k.last 0
    ·rw [show sendsQ { k with t := r.t } r = .error 4 from if_pos hlow]
     exact sends_low b base { k with t := r.t } vf vp vd r W hKW hk.pi (by have := hk.pin; show k.pieces.length ≤ 2000; omega) hk.pd (by have := hk.pdn; show k.paced.length ≤ 1900; omega) hk.fl hk.fln he' hsp hnum hsz hk.d.2 hfl hpr hx.t hlow
    ·rw [show sendsQ { k with t := r.t } r = if plainOk { k with t := r.t } r.o r.t then .ok (sentK { k with t := r.t } r.o r.t) else .error 8 from if_neg hlow]
     exact sends_plain b base { k with t := r.t } vf vp vd r W hKW hk.pi (by have := hk.pin; show k.pieces.length ≤ 2000; omega) hk.pd (by have := hk.pdn; show k.paced.length ≤ 1900; omega) hk.fl hk.fln he' hsp hnum hsz hk.d.2 hfl hpr hk.valid hx.t (by show k.last 0 < _; omega) (hfw (by omega)) hk.win
   ·intro k1 h1
    unfold sendsQ at h1
    split at h1
    ·cases h1
    ·split at h1
     ·injection h1 with h1
      subst h1
      exact hk.pin
     ·cases h1
   ·intro k1 e k2 h1 hm h2
    rw [he] at hm
    cases hm
   ·intro k1 e W vf vp vd h1 hm
    rw [he] at hm
    cases hm
  ·simp only at hk2 hsp hne hev
   rw [show rowQ k ⟨r, es, rs⟩ = goesP r rs es (.ok (ackK { k with t := r.t } (hi0 rs))) from by unfold rowQ; rw [if_neg hl, if_neg (by show ¬ r.kind = 1; omega)]]
   obtain ⟨y, hy⟩ : ∃ y, rs[0]? = some y := by
    cases rs with
    | nil => exact absurd rfl hne
    | cons y l => exact ⟨y, rfl⟩
   refine row_acks b base k vf vp vd r rs es w hK hR hE hx.en hx.enl hk.shut hx.err hx.cl ht9 hk2 (by omega) (.ok (ackK { k with t := r.t } (hi0 rs))) (fun k1 => k1.pieces.length ≤ 1900 ∧ k1.flying.length ≤ 1900 ∧ k1.c = k.c) ?_ ?_ ?_ (fun k1 h => h.1) ?_
   ·intro W hKW hRW
    have := acks_zero b base { k with t := r.t } vf vp vd r rs y W hKW hRW hx.rn hy hsp hx.rnl
    rw [show hi0 rs = y.hi by unfold hi0; rw [hy]; rfl]
    exact this
   ·intro k1 h1
    injection h1 with h1
    subst h1
    exact ⟨hk.pin, hk.fln, rfl⟩
   ·intro k1 e k2 h1 hm h2
    obtain ⟨a1, a2, a3⟩ := event_keeps h2
    exact ⟨by rw [a2]; exact h1.1, by have := h1.2.1; omega, a1.trans h1.2.2⟩
   ·intro k1 e W vf vp vd h1 hm hKW hRW
    rcases hev e hm with h | h
    ·exact event_acked b base k1 vf vp vd r rs e W hKW hRW hx.rn hx.rnl (by have := h1.2.1; omega) h
    ·exact event_window b base k1 vf vp vd r rs e W hKW hRW hx.rn hx.rnl (by have := h1.2.1; omega) h (by rw [h1.2.2]; exact hk.d)
end Go.Proofs.Ytidfngcclbhoaaa
