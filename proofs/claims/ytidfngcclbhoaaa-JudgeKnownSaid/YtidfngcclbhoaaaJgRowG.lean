/-
 Layer 24 (judge): what a row does, at all that the closed statement asks; its contract.
-/
import Derived.Test.YtidfngcclbhoaaaJgRowQ
import Derived.Test.YtidfngcclbhoaaaMjSvA
import Derived.Test.YtidfngcclbhoaaaMjSvB
import Derived.Test.YtidfngcclbhoaaaMjSvC
import Derived.Test.YtidfngcclbhoaaaMjSteps
import Derived.Test.YtidfngcclbhoaaaMjRowA
import Derived.Test.YtidfngcclbhoaaaMjRowB
namespace Go.Proofs.Ytidfngcclbhoaaa
set_option linter.unusedSimpArgs false
set_option linter.unusedVariables false
open Go.RowKit Go.Shelf
def isN (n : Int) : Bool := decide (0 ≤ n) && decide (n ≤ 9007199254740991)
def isSp (n : Int) : Bool := decide (0 ≤ n) && decide (n < 3)
def sendsG (k : KN) (r : RW) : Except Int KN :=
 if isSp r.o.sp = false then .error 4
 else if isN r.o.num = false then .error 4
 else if r.o.size < 1 then .error 4
 else if k.c.d < r.o.size then .error 4
 else if r.o.num ≤ k.last 0 then .error 4
 else if r.o.pr = true then
  (if k.own 0 ≤ 0 then .error 6
  else .ok (probeK k r.o r.t))
 else if k.window < flightP k.flying + r.o.size then .error 5
 else if k.valid = false ∧ decide (addI k.sent r.o.size ≤ numI (3 * k.got)) = false then .error 7
 else .ok (sentK k r.o r.t)
def stepG (k : KN) (r : RW) (rs : List RGJ) : Except Int KN :=
 if r.kind = 1 then sendsG k r
 else if r.kind = 2 then (if isSp r.sp = false then .ok k else .ok (ackK k (hi0 rs)))
 else if r.kind = 3 then .ok { k with got := addI k.got r.size }
 else .ok k
def rowG (k : KN) (x : RR) : Except Int KN :=
 if (x.r.err == 0) = false then .error 2
 else if x.es.any closesP = true then .error 2
 else if isN x.r.t = false then .error 3
 else if x.r.t < k.t then .error 3
 else goesP x.r x.rs x.es (stepG { k with t := x.r.t } x.r x.rs)
/-- What is known is in its bounds; the pacer is not asked. -/
structure KnOkG (k : KN) : Prop where
 shut : k.shut = false
 told : k.told = false
 fl : ∀ p ∈ k.flying, okP p
 fln : k.flying.length ≤ 1900
 pd : ∀ p ∈ k.paced, okPcd p
 pdn : k.paced.length ≤ 1900
 pi : ∀ p ∈ k.pieces, okPie p
 pin : k.pieces.length ≤ 1900
 d : 0 ≤ k.c.d ∧ k.c.d ≤ 65527
 win : k.window ≤ 1099511627776
 got : 0 ≤ k.got ∧ k.got ≤ 1000000
 own : k.own 0 ≤ 9
/-- A packet that the contract speaks of. -/
structure PkOk (k : KN) (r : RW) : Prop where
 en : r.en = 0
 sp : r.o.sp = 0 ∨ r.o.sp = 3
 fl : r.o.pr = false → isN r.o.num = true → 1 ≤ r.o.size → r.o.size ≤ k.c.d → r.o.sp = 0 → k.last 0 < r.o.num → r.o.fl = true
 pfl : r.o.pr = true → r.o.fl = true
 acc : r.o.pr = true → k.valid = false → decide (addI k.sent r.o.size ≤ numI (3 * k.got)) = true
theorem plain_untold {k : KN} {o : OUT} {t : Int} (h : k.told = false) : plainOk k o t = true := by
 unfold plainOk
 rw [h]
 rfl
theorem sendsg_any (b base : Nat) (k : KN) (vf vp vd : Value) (r : RW) (w : World) (hK : KnAt w b base k vf vp vd) (hk : KnOkG k) (hr : PkOk k r) (ht : 0 ≤ r.t ∧ r.t ≤ 68719476736) :
  Calls Try.prog 27 #[.pointer (some ⟨b, 0, none⟩), .agg (rwC r)] w (StepPost b base w (sendsG k r)) := by
 have hl : k.pieces.length ≤ 2000 := by have := hk.pin; omega
 unfold sendsG
 rcases hr.sp with hsp | hsp
 ·rw [if_neg (by rw [hsp]; decide)]
  cases hn : isN r.o.num with
  | false =>
   rw [if_pos rfl]
   exact sends_nonumber b base k vf vp vd r w hK hk.pi hl hk.pd hk.pdn hk.fl hk.fln hr.en hsp hn
  | true =>
   rw [if_neg (by simp)]
   have hnum : 0 ≤ r.o.num ∧ r.o.num ≤ 9007199254740991 := by
    unfold isN at hn
    simpa using hn
   by_cases h1 : r.o.size < 1
   ·rw [if_pos h1]
    exact sends_nosize b base k vf vp vd r w hK hk.pi hl hk.pd hk.pdn hk.fl hk.fln hr.en hsp hnum h1
   rw [if_neg h1]
   by_cases h2 : k.c.d < r.o.size
   ·rw [if_pos h2]
    exact sends_great b base k vf vp vd r w hK hk.pi hl hk.pd hk.pdn hk.fl hk.fln hr.en hsp hnum (by omega) h2
   rw [if_neg h2]
   by_cases h3 : r.o.num ≤ k.last 0
   ·rw [if_pos h3]
    exact sends_lows b base k vf vp vd r w hK hk.pi hl hk.pd hk.pdn hk.fl hk.fln hr.en hsp hnum ⟨by omega, by omega⟩ hk.d.2 ht h3
   rw [if_neg h3]
   cases hpr : r.o.pr with
   | true =>
    rw [if_pos rfl]
    have hfl := hr.pfl hpr
    by_cases h4 : k.own 0 ≤ 0
    ·rw [if_pos h4]
     exact sends_noprobe b base k vf vp vd r w hK hk.pi hl hk.pd hk.pdn hk.fl hk.fln hr.en hsp hnum ⟨by omega, by omega⟩ hk.d.2 hfl hpr ht (by omega) h4
    ·rw [if_neg h4]
     cases hv : k.valid with
     | true => exact sends_probe b base k vf vp vd r w hK hk.pi hl hk.pd hk.pdn hk.fl hk.fln hr.en hsp hnum ⟨by omega, by omega⟩ hk.d.2 hfl hpr hv ht (by omega) ⟨by omega, hk.own⟩
     | false => exact sends_probes b base k vf vp vd r w hK hk.pi hl hk.pd hk.pdn hk.fl hk.fln hr.en hsp hnum ⟨by omega, by omega⟩ hk.d.2 hfl hpr hv hk.got (hr.acc hpr hv) ht (by omega) ⟨by omega, hk.own⟩
   | false =>
    rw [if_neg (by simp)]
    have hfl := hr.fl hpr hn (by omega) (by omega) hsp (by omega)
    by_cases h5 : k.window < flightP k.flying + r.o.size
    ·rw [if_pos h5]
     exact sends_wide b base k vf vp vd r w hK hk.pi hl hk.pd hk.pdn hk.fl hk.fln hr.en hsp hnum ⟨by omega, by omega⟩ hk.d.2 hfl hpr ht (by omega) h5
    rw [if_neg h5]
    have hpo : (if plainOk k r.o r.t then Except.ok (sentK k r.o r.t) else .error 8 : Except Int KN) = .ok (sentK k r.o r.t) := by rw [plain_untold hk.told]; rfl
    cases hv : k.valid with
    | true =>
     rw [if_neg (by simp), ← hpo]
     exact sends_plain b base k vf vp vd r w hK hk.pi hl hk.pd hk.pdn hk.fl hk.fln hr.en hsp hnum ⟨by omega, by omega⟩ hk.d.2 hfl hpr hv ht (by omega) (by omega) hk.win
    | false =>
     cases ha : decide (addI k.sent r.o.size ≤ numI (3 * k.got)) with
     | true =>
      rw [if_neg (by simp), ← hpo]
      exact sends_unsure b base k vf vp vd r w hK hk.pi hl hk.pd hk.pdn hk.fl hk.fln hr.en hsp hnum ⟨by omega, by omega⟩ hk.d.2 hfl hpr hv hk.got ha ht (by omega) (by omega) hk.win
     | false =>
      rw [if_pos ⟨rfl, rfl⟩]
      exact sends_over b base k vf vp vd r w hK hk.pi hl hk.pd hk.pdn hk.fl hk.fln hr.en hsp hnum ⟨by omega, by omega⟩ hk.d.2 hfl hpr hv hk.got ha ht (by omega) (by omega) hk.win
 ·rw [if_pos (by rw [hsp]; decide)]
  exact sends_nospace b base k vf vp vd r w hK hk.pi hl hk.pd hk.pdn hk.fl hk.fln hr.en hsp
/-- An event that the contract speaks of, whatever is known. -/
def EvOk (r : RW) (e : EVJ) : Prop := e.kind = 1 ∨ e.kind = 4 ∨ (e.kind = 5 ∧ timedB r = true) ∨ (¬ e.kind = 1 ∧ ¬ e.kind = 2 ∧ ¬ e.kind = 3 ∧ ¬ e.kind = 4 ∧ ¬ e.kind = 5) ∨ (e.kind = 3 ∧ r.kind = 4 ∧ ((e.sp = 0 ∧ e.n = 1) ∨ isSp e.sp = false))
/-- A packet that is told as lost too early. -/
def EvLost (k : KN) (r : RW) (e : EVJ) : Prop := e.kind = 2 ∧ r.kind = 4 ∧ e.sp = 0 ∧ 0 ≤ idxF (atP e) k.flying 0 ∧ (-1 ≤ k.top 0 ∧ k.top 0 ≤ 9007199254740991) ∧ (k.top 0 - 3 < e.num ∧ k.top 0 ≤ e.num)
structure EvsP (k : KN) (r : RW) (es : List EVJ) (k1 : KN) : Prop where
 pin : k1.pieces.length ≤ 1900
 fln : k1.flying.length ≤ 1900
 c : k1.c = k.c
 ev : (∀ e ∈ es, EvOk r e) ∨ ∃ e, es = [e] ∧ EvLost k1 r e
theorem lost_fails {k : KN} {r : RW} {rs : List RGJ} {e : EVJ} (h : EvLost k r e) : eventP k r rs e = .error 10 := by
 obtain ⟨h1, h2, h3, h4, h5, h6⟩ := h
 unfold eventP
 rw [if_neg (by omega), if_pos h1]
 have e1 : decide (e.num ≤ k.top 0 - 3) = false := decide_eq_false (by omega)
 have e2 : decide (e.num < k.top 0) = false := decide_eq_false (by omega)
 split
 ·rw [if_neg]
  rw [h3]
  show ¬ ((decide (e.num ≤ k.top 0 - 3) || (decide (e.num < k.top 0) && _)) = true)
  rw [e1, e2]
  simp
 ·rfl
theorem EvsP.keep {k k1 k2 : KN} {r : RW} {rs : List RGJ} {es : List EVJ} {e : EVJ} (h : EvsP k r es k1) (hm : e ∈ es) (h2 : eventP k1 r rs e = .ok k2) : EvsP k r es k2 := by
 obtain ⟨a1, a2, a3⟩ := event_keeps h2
 refine ⟨by rw [a2]; exact h.pin, by have := h.fln; omega, a1.trans h.c, ?_⟩
 rcases h.ev with h0 | ⟨e', rfl, h0⟩
 ·exact .inl h0
 ·rw [List.mem_singleton] at hm
  subst hm
  rw [lost_fails h0] at h2
  cases h2
theorem EvsP.call {b base : Nat} {k k1 : KN} {vf vp vd : Value} {r : RW} {rs : List RGJ} {es : List EVJ} {e : EVJ} {W : World} (h : EvsP k r es k1) (hd : 0 ≤ k.c.d ∧ k.c.d ≤ 65527) (hrn : rs.length = r.rn) (hrl : r.rn ≤ 2000) (hm : e ∈ es) (hK : KnAt W b base k1 vf vp vd) (hR : LieAt rgL 2 W base r.ra rs) :
  Calls Try.prog 32 #[.pointer (some ⟨b, 0, none⟩), .agg (rwC r), .agg #[.int .i64 e.kind, .int .i64 e.sp, .int .i64 e.num, .int .i64 e.n]] W (StepPost b base W (eventP k1 r rs e)) := by
 have hfn : k1.flying.length ≤ 2000 := by have := h.fln; omega
 rcases h.ev with h0 | ⟨e', rfl, h0⟩
 ·rcases h0 e hm with h1 | h1 | ⟨h1, h2⟩ | h1 | ⟨h1, h2, ⟨h3, h4⟩ | h3⟩
  ·exact event_acked b base k1 vf vp vd r rs e W hK hR hrn hrl hfn h1
  ·exact event_window b base k1 vf vp vd r rs e W hK hR hrn hrl hfn h1 (by rw [h.c]; exact hd)
  ·exact event_collapse b base k1 vf vp vd r rs e W hK hR hrn hrl hfn h1 h2
  ·exact event_none b base k1 vf vp vd r rs e W hK hR hrn hrl hfn h1
  ·exact event_probe b base k1 vf vp vd r rs e W hK hR hrn hrl hfn h1 h2 h3 h4
  ·exact event_noprobe b base k1 vf vp vd r rs e W hK hR hrn hrl hfn h1 h2 h3
 ·rw [List.mem_singleton] at hm
  subst hm
  obtain ⟨h1, h2, h3, h4, h5, h6⟩ := h0
  exact event_early b base k1 vf vp vd r rs e W hK hR hrn hrl hfn h1 h2 h3 h4 h5 h6
/-- A row that the contract speaks of. -/
structure RowOkG (k : KN) (x : RR) : Prop where
 en : x.es.length = x.r.en
 enl : x.r.en ≤ 2000
 rn : x.rs.length = x.r.rn
 rnl : x.r.rn ≤ 2000
 t : isN x.r.t = true → x.r.t ≤ 68719476736
 err : (x.r.err == 0) = false → ∃ e, x.es = [e] ∧ closesP e = true ∧ (e.n == x.r.err) = false
 kind : x.r.kind = 0 ∨ x.r.kind = 1 ∨ x.r.kind = 2 ∨ x.r.kind = 3 ∨ x.r.kind = 4 ∨ x.r.kind = 6 ∨ x.r.kind = 9
 pk : x.r.kind = 1 → x.es = [] ∧ PkOk { k with t := x.r.t } x.r
 ack : x.r.kind = 2 → isSp x.r.sp = false ∨ (x.r.sp = 0 ∧ x.rs ≠ [])
 disc : x.r.kind = 6 → k.flying.any (spP x.r.sp) = false
 ev : (∀ e ∈ x.es, EvOk x.r e) ∨ ∃ e, x.es = [e] ∧ EvLost { k with t := x.r.t } x.r e
theorem rowg_any (b base : Nat) (k : KN) (vf vp vd : Value) (x : RR) (w : World) (hK : KnAt w b base k vf vp vd) (hE : LieAt evL 4 w base x.r.ea x.es) (hR : LieAt rgL 2 w base x.r.ra x.rs) (hk : KnOkG k) (hx : RowOkG k x) :
  Calls Try.prog 15 #[.pointer (some ⟨b, 0, none⟩), .agg (rwC x.r)] w (RowPost b base w (rowG k x)) := by
 obtain ⟨r, es, rs⟩ := x
 obtain ⟨hen, henl, hrn, hrnl, htt, herr, hkind, hpk, hack, hdisc, hevs⟩ := hx
 simp only at hen henl hrn hrnl htt herr hkind hpk hack hdisc hevs hE hR ⊢
 unfold rowG
 simp only
 cases he : (r.err == 0) with
 | false =>
  rw [if_pos rfl]
  obtain ⟨e, h1, h2, h3⟩ := herr he
  exact row_refused b base k vf vp vd r rs es w hK hR hE hen henl hk.shut e h1 h2 h3 he
 | true =>
  have he0 : r.err = 0 := by simpa using he
  rw [if_neg (by simp)]
  cases hc : es.any closesP with
  | true =>
   rw [if_pos rfl]
   exact row_closes b base k vf vp vd r rs es w hK hR hE hen henl hk.shut he0 hc
  | false =>
   rw [if_neg (by simp)]
   cases hn : isN r.t with
   | false =>
    rw [if_pos rfl]
    exact row_never b base k vf vp vd r rs es w hK hR hE hen henl hk.shut he0 hc hn
   | true =>
    rw [if_neg (by simp)]
    have ht9 : 0 ≤ r.t ∧ r.t ≤ 9007199254740991 := by
     unfold isN at hn
     simpa using hn
    have ht := htt hn
    by_cases hl : r.t < k.t
    ·rw [if_pos hl]
     exact row_late b base k vf vp vd r rs es w hK hR hE hen henl hk.shut he0 hc ht9 hl
    rw [if_neg hl]
    have hP0 : EvsP k r es { k with t := r.t } := ⟨hk.pin, hk.fln, rfl, hevs⟩
    rcases hkind with h | h | h | h | h | h | h
    ·rw [show stepG { k with t := r.t } r rs = .ok { k with t := r.t } by unfold stepG; rw [if_neg (by omega), if_neg (by omega), if_neg (by omega)]]
     exact row_zero b base k vf vp vd r rs es w hK hR hE hen henl hk.shut he0 hc ht9 h (by omega) _ (EvsP k r es) (fun W hKW _ => nothing_any b base _ vf vp vd r W hKW) (fun k1 h1 => by injection h1 with h1; subst h1; exact hP0) (fun k1 e k2 h1 hm h2 => h1.keep hm h2) (fun k1 h1 => h1.pin) (fun k1 e W _ _ _ h1 hm hKW hRW => h1.call hk.d hrn hrnl hm hKW hRW)
    ·rw [show stepG { k with t := r.t } r rs = sendsG { k with t := r.t } r by unfold stepG; rw [if_pos h]]
     obtain ⟨hes, hp⟩ := hpk h
     refine row_sends b base k vf vp vd r rs es w hK hR hE hen henl hk.shut he0 hc ht9 h (by omega) _ (fun k1 => k1.pieces.length ≤ 1900) (fun W hKW _ => sendsg_any b base _ vf vp vd r W hKW ⟨hk.shut, hk.told, hk.fl, hk.fln, hk.pd, hk.pdn, hk.pi, hk.pin, hk.d, hk.win, hk.got, hk.own⟩ hp ⟨ht9.1, ht⟩) ?_ (fun k1 e k2 h1 hm => by rw [hes] at hm; cases hm) (fun k1 h1 => h1) (fun k1 e W _ _ _ h1 hm => by rw [hes] at hm; cases hm)
     intro k1 h1
     unfold sendsG at h1
     repeat' split at h1
     all_goals first | (cases h1; done) | (injection h1 with h1; subst h1; exact hk.pin)
    ·cases hs : isSp r.sp with
     | false =>
      rw [show stepG { k with t := r.t } r rs = .ok { k with t := r.t } by unfold stepG; rw [if_neg (by omega), if_pos h, if_pos hs]]
      exact row_acks b base k vf vp vd r rs es w hK hR hE hen henl hk.shut he0 hc ht9 h (by omega) _ (EvsP k r es) (fun W hKW _ => acks_none b base _ vf vp vd r W hKW hs) (fun k1 h1 => by injection h1 with h1; subst h1; exact hP0) (fun k1 e k2 h1 hm h2 => h1.keep hm h2) (fun k1 h1 => h1.pin) (fun k1 e W _ _ _ h1 hm hKW hRW => h1.call hk.d hrn hrnl hm hKW hRW)
     | true =>
      rw [show stepG { k with t := r.t } r rs = .ok (ackK { k with t := r.t } (hi0 rs)) by unfold stepG; rw [if_neg (by omega), if_pos h, if_neg (by rw [hs]; simp)]]
      rcases hack h with h0 | ⟨hsp, hne⟩
      ·rw [hs] at h0
       cases h0
      obtain ⟨y, hy⟩ : ∃ y, rs[0]? = some y := by
       cases rs with
       | nil => exact absurd rfl hne
       | cons y l => exact ⟨y, rfl⟩
      have hev2 : (∀ e ∈ es, EvOk r e) ∨ ∃ e, es = [e] ∧ EvLost (ackK { k with t := r.t } (hi0 rs)) r e := by
       rcases hevs with h0 | ⟨e, h1, h2⟩
       ·exact .inl h0
       ·have := h2.2.1
        omega
      exact row_acks b base k vf vp vd r rs es w hK hR hE hen henl hk.shut he0 hc ht9 h (by omega) _ (EvsP k r es) (fun W hKW hRW => by
        have := acks_zero b base { k with t := r.t } vf vp vd r rs y W hKW hRW hrn hy hsp hrnl
        rw [show hi0 rs = y.hi by unfold hi0; rw [hy]; rfl]
        exact this) (fun k1 h1 => by injection h1 with h1; subst h1; exact ⟨hk.pin, hk.fln, rfl, hev2⟩) (fun k1 e k2 h1 hm h2 => h1.keep hm h2) (fun k1 h1 => h1.pin) (fun k1 e W _ _ _ h1 hm hKW hRW => h1.call hk.d hrn hrnl hm hKW hRW)
    ·rw [show stepG { k with t := r.t } r rs = .ok { k with t := r.t, got := addI k.got r.size } by unfold stepG; rw [if_neg (by omega), if_neg (by omega), if_pos h]]
     have hev2 : (∀ e ∈ es, EvOk r e) ∨ ∃ e, es = [e] ∧ EvLost { k with t := r.t, got := addI k.got r.size } r e := by
      rcases hevs with h0 | ⟨e, h1, h2⟩
      ·exact .inl h0
      ·have := h2.2.1
       omega
     exact row_gets b base k vf vp vd r rs es w hK hR hE hen henl hk.shut he0 hc ht9 h (by omega) _ (EvsP k r es) (fun W hKW _ => gets_any b base _ vf vp vd r W hKW) (fun k1 h1 => by injection h1 with h1; subst h1; exact ⟨hk.pin, hk.fln, rfl, hev2⟩) (fun k1 e k2 h1 hm h2 => h1.keep hm h2) (fun k1 h1 => h1.pin) (fun k1 e W _ _ _ h1 hm hKW hRW => h1.call hk.d hrn hrnl hm hKW hRW)
    ·rw [show stepG { k with t := r.t } r rs = .ok { k with t := r.t } by unfold stepG; rw [if_neg (by omega), if_neg (by omega), if_neg (by omega)]]
     exact row_timeout b base k vf vp vd r rs es w hK hR hE hen henl hk.shut he0 hc ht9 h (by omega) _ (EvsP k r es) (fun W hKW _ => nothing_any b base _ vf vp vd r W hKW) (fun k1 h1 => by injection h1 with h1; subst h1; exact hP0) (fun k1 e k2 h1 hm h2 => h1.keep hm h2) (fun k1 h1 => h1.pin) (fun k1 e W _ _ _ h1 hm hKW hRW => h1.call hk.d hrn hrnl hm hKW hRW)
    ·rw [show stepG { k with t := r.t } r rs = .ok { k with t := r.t } by unfold stepG; rw [if_neg (by omega), if_neg (by omega), if_neg (by omega)]]
     exact row_discards b base k vf vp vd r rs es w hK hR hE hen henl hk.shut he0 hc ht9 h (by omega) _ (EvsP k r es) (fun W hKW _ => discards_none b base _ vf vp vd r W hKW (by have := hk.fln; show k.flying.length ≤ 2000; omega) (hdisc h)) (fun k1 h1 => by injection h1 with h1; subst h1; exact hP0) (fun k1 e k2 h1 hm h2 => h1.keep hm h2) (fun k1 h1 => h1.pin) (fun k1 e W _ _ _ h1 hm hKW hRW => h1.call hk.d hrn hrnl hm hKW hRW)
    ·rw [show stepG { k with t := r.t } r rs = .ok { k with t := r.t } by unfold stepG; rw [if_neg (by omega), if_neg (by omega), if_neg (by omega)]]
     exact row_nine b base k vf vp vd r rs es w hK hR hE hen henl hk.shut he0 hc ht9 h (by omega) (EvsP k r es) hP0 (fun k1 e k2 h1 hm h2 => h1.keep hm h2) (fun k1 h1 => h1.pin) (fun k1 e W _ _ _ h1 hm hKW hRW => h1.call hk.d hrn hrnl hm hKW hRW)
end Go.Proofs.Ytidfngcclbhoaaa
