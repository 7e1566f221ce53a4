/-
 The document's side of layer 24: row: its contract at all that the closed statement asks.
-/
import Derived.Test.YtidfngcclbhoaaaMjRefRow
import Derived.Test.YtidfngcclbhoaaaMjRefDo
import Derived.Test.YtidfngcclbhoaaaJrDoT
import Derived.Test.YtidfngcclbhoaaaJrDoA
import Derived.Test.YtidfngcclbhoaaaMjRefSa
import Derived.Test.YtidfngcclbhoaaaMjRefSb
import Derived.Test.YtidfngcclbhoaaaMjRefSt
import Derived.Test.YtidfngcclbhoaaaMjRefEv
namespace Go.Proofs.Ytidfngcclbhoaaa
set_option linter.unusedSimpArgs false
set_option linter.unusedVariables false
open Go.RowKit Go.Shelf
/-- What is known is in its bounds. -/
structure KnOkR (k : KN) : Prop where
 shut : k.shut = false
 told : k.told = false
 fl : ∀ p ∈ k.flying, okP p
 fln : k.flying.length ≤ 1900
 pdn : k.paced.length ≤ 1900
 pin : k.pieces.length ≤ 1900
 d : 0 ≤ k.c.d ∧ k.c.d ≤ 65527
 got : 0 ≤ k.got ∧ k.got ≤ 1000000
 own : 0 ≤ k.own 0 ∧ k.own 0 ≤ 9
theorem rdoes_one (b base : Nat) (k : KN) (vL vA vR vP : Value) (r : RW) (w : World) (hK : KrAt w b base k vL vA vR vP) (hk : KnOkR k) (hr : PkOk k r) (hkd : r.kind = 1) :
  Calls Try.prog 66 #[.pointer (some ⟨b, 0, none⟩), .agg (rwC r)] w (RefPost b base w (sendsG k r)) := by
 unfold sendsG
 rcases hr.sp with hsp | hsp
 ·rw [if_neg (by rw [hsp]; decide)]
  cases hn : isN r.o.num with
  | false =>
   rw [if_pos rfl]
   exact rdoes_refuse b base k vL vA vR vP r w hK hkd 4 (by decide) (fun W h => rsends_nonumber b base k vL vA vR vP r W h hk.fl hk.fln hk.d.2 hr.en hsp hn)
  | true =>
   rw [if_neg (by simp)]
   by_cases h1 : r.o.size < 1
   ·rw [if_pos h1]
    by_cases h3 : r.o.num ≤ k.last 0
    ·exact rdoes_refuse b base k vL vA vR vP r w hK hkd 4 (by decide) (fun W h => rsends_low b base k vL vA vR vP r W h hk.fl hk.fln hk.d.2 hr.en hsp ⟨hn, h3⟩)
    ·exact rdoes_refuse b base k vL vA vR vP r w hK hkd 4 (by decide) (fun W h => rsends_nosize b base k vL vA vR vP r W h hk.fl hk.fln hk.d.2 hr.en hsp ⟨hn, by omega, h1⟩)
   rw [if_neg h1]
   by_cases h2 : k.c.d < r.o.size
   ·rw [if_pos h2]
    by_cases h3 : r.o.num ≤ k.last 0
    ·exact rdoes_refuse b base k vL vA vR vP r w hK hkd 4 (by decide) (fun W h => rsends_low b base k vL vA vR vP r W h hk.fl hk.fln hk.d.2 hr.en hsp ⟨hn, h3⟩)
    ·exact rdoes_refuse b base k vL vA vR vP r w hK hkd 4 (by decide) (fun W h => rsends_great b base k vL vA vR vP r W h hk.fl hk.fln hk.d.2 hr.en hsp ⟨hn, by omega, by omega, h2⟩)
   rw [if_neg h2]
   by_cases h3 : r.o.num ≤ k.last 0
   ·rw [if_pos h3]
    exact rdoes_refuse b base k vL vA vR vP r w hK hkd 4 (by decide) (fun W h => rsends_low b base k vL vA vR vP r W h hk.fl hk.fln hk.d.2 hr.en hsp ⟨hn, h3⟩)
   rw [if_neg h3]
   have hla : k.last 0 < r.o.num := by omega
   have hsz : 1 ≤ r.o.size ∧ r.o.size ≤ k.c.d := ⟨by omega, by omega⟩
   cases hpr : r.o.pr with
   | true =>
    rw [if_pos rfl]
    have hfl := hr.pfl hpr
    by_cases h4 : k.own 0 ≤ 0
    ·rw [if_pos h4]
     exact rdoes_refuse b base k vL vA vR vP r w hK hkd 6 (by decide) (fun W h => rsends_noprobe b base k vL vA vR vP r W h hk.fl hk.fln hk.d.2 hr.en hsp hn hla hsz hfl hpr (by have := hk.own.1; omega))
    ·rw [if_neg h4]
     cases hv : k.valid with
     | true => exact rdoes_sent b base k vL vA vR vP r w hK hkd _ hr.en (fun W h => rsends_probe b base k vL vA vR vP r W h hk.fl hk.fln hk.d.2 hr.en hsp hn hla hsz hfl hpr (by omega) hv hk.told) (fun W h => rsent_probe b base k vL vA vR vP r W h hk.fln hk.pdn hsp hfl hpr ⟨by omega, hk.own.2⟩ |>.mono (fun e w' ⟨h1, a1, a2, a3, h2, h3⟩ => ⟨h1, a1, a2, a3, h2, h3⟩))
     | false => exact rdoes_sent b base k vL vA vR vP r w hK hkd _ hr.en (fun W h => rsends_probes b base k vL vA vR vP r W h hk.fl hk.fln hk.d.2 hr.en hsp hn hla hsz hfl hpr (by omega) hv hk.got (hr.acc hpr hv) hk.told) (fun W h => rsent_probe b base k vL vA vR vP r W h hk.fln hk.pdn hsp hfl hpr ⟨by omega, hk.own.2⟩)
   | false =>
    rw [if_neg (by simp)]
    have hfl := hr.fl hpr hn (by omega) (by omega) hsp hla
    by_cases h5 : k.window < flightP k.flying + r.o.size
    ·rw [if_pos h5]
     exact rdoes_refuse b base k vL vA vR vP r w hK hkd 5 (by decide) (fun W h => rsends_wide b base k vL vA vR vP r W h hk.fl hk.fln hk.d.2 hr.en hsp hn hla hsz hfl hpr h5)
    rw [if_neg h5]
    cases hv : k.valid with
    | true =>
     rw [if_neg (by simp)]
     exact rdoes_sent b base k vL vA vR vP r w hK hkd _ hr.en (fun W h => rsends_plain b base k vL vA vR vP r W h hk.fl hk.fln hk.d.2 hr.en hsp hn hla hsz hfl hpr (by omega) hv hk.told) (fun W h => rsent_plain b base k vL vA vR vP r W h hk.fln hk.pdn hsp hfl hpr)
    | false =>
     cases ha : decide (addI k.sent r.o.size ≤ numI (3 * k.got)) with
     | true =>
      rw [if_neg (by simp)]
      exact rdoes_sent b base k vL vA vR vP r w hK hkd _ hr.en (fun W h => rsends_unsure b base k vL vA vR vP r W h hk.fl hk.fln hk.d.2 hr.en hsp hn hla hsz hfl hpr (by omega) hv hk.got ha hk.told) (fun W h => rsent_plain b base k vL vA vR vP r W h hk.fln hk.pdn hsp hfl hpr)
     | false =>
      rw [if_pos ⟨rfl, rfl⟩]
      exact rdoes_refuse b base k vL vA vR vP r w hK hkd 7 (by decide) (fun W h => rsends_over b base k vL vA vR vP r W h hk.fl hk.fln hk.d.2 hr.en hsp hn hla hsz hfl hpr (by omega) hv hk.got ha)
 ·rw [if_pos (by rw [hsp]; decide)]
  exact rdoes_refuse b base k vL vA vR vP r w hK hkd 4 (by decide) (fun W h => rsends_nospace b base k vL vA vR vP r W h hk.fl hk.fln hk.d.2 hr.en hsp)
/-- An event that the contract speaks of. -/
def EvOkR (k : KN) (r : RW) (rs : List RGJ) (e : EVJ) : Prop :=
 (¬ e.kind = 1 ∧ ¬ e.kind = 2 ∧ ¬ e.kind = 3 ∧ ¬ e.kind = 4 ∧ ¬ e.kind = 5) ∨ (e.kind = 5 ∧ timedB r = true) ∨ (e.kind = 4 ∧ timedB r = true ∧ 2 * k.c.d ≤ e.n ∧ e.n ≤ k.c.most)
  ∨ (e.kind = 3 ∧ r.kind = 4 ∧ ((e.sp = 0 ∧ e.n = 1) ∨ isSp e.sp = false)) ∨ (e.kind = 1 ∧ r.kind = 2 ∧ e.sp = r.sp ∧ k.flying.length = 1 ∧ idxF (atP e) k.flying 0 = 0 ∧ rs.any (inR e.num) = true)
def EvsR (r : RW) (rs : List RGJ) : KN → List EVJ → Prop
 | _, [] => True
 | k, e :: es => EvOkR k r rs e ∧ ∀ k', eventP k r rs e = .ok k' → EvsR r rs k' es
/-- While the events are gone through. -/
structure IvR (r : RW) (rs : List RGJ) (es : List EVJ) (i : Nat) (k : KN) : Prop where
 pin : k.pieces.length ≤ 1900
 fln : k.flying.length ≤ 1900
 d : 0 ≤ k.c.d ∧ k.c.d ≤ 65527
 ev : EvsR r rs k (es.drop i)
theorem IvR.head {r : RW} {rs : List RGJ} {es : List EVJ} {i : Nat} {k : KN} {e : EVJ} (h : IvR r rs es i k) (he : es[i]? = some e) : EvOkR k r rs e ∧ ∀ k', eventP k r rs e = .ok k' → EvsR r rs k' (es.drop (i + 1)) := by
 have hi : i < es.length := (List.getElem?_eq_some_iff.1 he).1
 have := h.ev
 rw [List.drop_eq_getElem_cons hi] at this
 rw [List.getElem?_eq_getElem hi] at he
 rw [Option.some.inj he] at this
 exact this
theorem IvR.keep {r : RW} {rs : List RGJ} {es : List EVJ} {i : Nat} {k k2 : KN} {e : EVJ} (h : IvR r rs es i k) (he : es[i]? = some e) (h2 : eventP k r rs e = .ok k2) : IvR r rs es (i + 1) k2 := by
 obtain ⟨a1, a2, a3⟩ := event_keeps h2
 exact ⟨by rw [a2]; exact h.pin, by have := h.fln; omega, by rw [a1]; exact h.d, (h.head he).2 k2 h2⟩
theorem IvR.call {b base : Nat} {r : RW} {rs : List RGJ} {es : List EVJ} {i : Nat} {k : KN} {vL vA vR vP : Value} {e : EVJ} {W : World} (h : IvR r rs es i k) (he : es[i]? = some e) (hrn : rs.length = r.rn) (hrl : r.rn ≤ 2000) (hK : KrAt W b base k vL vA vR vP) (hR : LieAt rgL 2 W base r.ra rs) :
  Calls Try.prog 80 #[.pointer (some ⟨b, 0, none⟩), .agg (rwC r), .agg #[.int .i64 e.kind, .int .i64 e.sp, .int .i64 e.num, .int .i64 e.n]] W (RefPost b base W (eventP k r rs e)) := by
 have hfn : k.flying.length ≤ 2000 := by have := h.fln; omega
 rcases (h.head he).1 with h1 | ⟨h1, h2⟩ | ⟨h1, h2, h3, h4⟩ | ⟨h1, h2, ⟨h3, h4⟩ | h3⟩ | ⟨h1, h2, h3, h4, h5, h6⟩
 ·exact rev_none b base k vL vA vR vP r rs e W hK hR hrn hrl hfn h1
 ·exact rev_collapse b base k vL vA vR vP r rs e W hK hR hrn hrl hfn h1 h2
 ·exact rev_window b base k vL vA vR vP r rs e W hK hR hrn hrl hfn h1 h2 h.d h3 h4
 ·exact rev_probe b base k vL vA vR vP r rs e W hK hR hrn hrl hfn h1 h2 h3 h4
 ·exact rev_noprobe b base k vL vA vR vP r rs e W hK hR hrn hrl hfn h1 h2 h3
 ·obtain ⟨p, hp⟩ := List.length_eq_one_iff.1 h4
  exact rev_acked b base k vL vA vR vP r rs e W hK hR hrn hrl hfn h1 h2 h3 p hp h5 h6
/-- A row that the contract speaks of. -/
structure RowOkR (k : KN) (x : RR) : Prop where
 en : x.es.length = x.r.en
 enl : x.r.en ≤ 2000
 rn : x.rs.length = x.r.rn
 rnl : x.r.rn ≤ 2000
 err : (x.r.err == 0) = false → ∃ e, x.es = [e] ∧ closesP e = true ∧ (e.n == x.r.err) = false
 kind : x.r.kind = 0 ∨ x.r.kind = 1 ∨ x.r.kind = 2 ∨ x.r.kind = 3 ∨ x.r.kind = 4 ∨ x.r.kind = 6 ∨ x.r.kind = 9
 pk : x.r.kind = 1 → x.es = [] ∧ PkOk { k with t := x.r.t } x.r
 ack : x.r.kind = 2 → isSp x.r.sp = false ∨ (x.r.sp = 0 ∧ x.rs ≠ [])
 disc : x.r.kind = 6 → isSp x.r.sp = false
 ev : ¬ x.r.kind = 1 → ∀ k1, stepG { k with t := x.r.t } x.r x.rs = .ok k1 → EvsR x.r x.rs k1 x.es
theorem rrowg_any (b base : Nat) (k : KN) (vL vA vR vP : Value) (x : RR) (w : World) (hK : KrAt w b base k vL vA vR vP) (hE : LieAt evL 4 w base x.r.ea x.es) (hR : LieAt rgL 2 w base x.r.ra x.rs) (hk : KnOkR k) (hx : RowOkR k x) :
  Calls Try.prog 35 #[.pointer (some ⟨b, 0, none⟩), .agg (rwC x.r)] w (RefPost b base w (rowG k x)) := by
 obtain ⟨r, es, rs⟩ := x
 obtain ⟨hen, henl, hrn, hrnl, herr, hkind, hpk, hack, hdisc, hevs⟩ := hx
 simp only at hen henl hrn hrnl herr hkind hpk hack hdisc hevs hE hR ⊢
 unfold rowG
 simp only
 cases he : (r.err == 0) with
 | false =>
  rw [if_pos rfl]
  obtain ⟨e, h1, h2, h3⟩ := herr he
  exact rrow_refused b base k vL vA vR vP r rs es w hK hR hE hen henl hk.shut e h1 h2 h3 he
 | true =>
  have he0 : r.err = 0 := by simpa using he
  rw [if_neg (by simp)]
  cases hc : es.any closesP with
  | true =>
   rw [if_pos rfl]
   exact rrow_closes b base k vL vA vR vP r rs es w hK hR hE hen henl hk.shut he0 hc
  | false =>
   rw [if_neg (by simp)]
   cases hn : isN r.t with
   | false =>
    rw [if_pos rfl]
    exact rrow_never b base k vL vA vR vP r rs es w hK hR hE hen henl hk.shut he0 hc hn
   | true =>
    rw [if_neg (by simp)]
    by_cases hl : r.t < k.t
    ·rw [if_pos hl]
     exact rrow_late b base k vL vA vR vP r rs es w hK hR hE hen henl hk.shut he0 hc hn hl
    rw [if_neg hl]
    refine rrow_goes b base k vL vA vR vP r rs es w hK hR hE hen henl hk.shut he0 hc hn hl _ ?_
    intro W hKW hRW hEW
    have hkt : KnOkR { k with t := r.t } := ⟨hk.shut, hk.told, hk.fl, hk.fln, hk.pdn, hk.pin, hk.d, hk.got, hk.own⟩
    rcases hkind with h | h | h | h | h | h | h
    ·have hst : stepG { k with t := r.t } r rs = .ok { k with t := r.t } := by unfold stepG; rw [if_neg (by omega), if_neg (by omega), if_neg (by omega)]
     rw [hst]
     exact rdoes_zero b base _ vL vA vR vP r rs es W hKW hRW hEW hen henl h (IvR r rs es) ⟨hk.pin, hk.fln, hk.d, hevs (by omega) _ hst⟩ (fun i k1 e k2 h1 h2 h3 => h1.keep h2 h3) (fun i k1 h1 => h1.pin) (fun i k1 _ _ _ _ e W' h1 h2 h3 h4 => h1.call h2 hrn hrnl h3 h4)
    ·obtain ⟨hes, hp⟩ := hpk h
     subst hes
     rw [show stepG { k with t := r.t } r rs = sendsG { k with t := r.t } r by unfold stepG; rw [if_pos h]]
     have hd := rdoes_one b base _ vL vA vR vP r W hKW hkt hp h
     cases hq : sendsG { k with t := r.t } r with
     | error n =>
      rw [hq] at hd
      exact hd
     | ok k' =>
      rw [hq] at hd
      have : goesP r rs [] (.ok k') = .ok k' := by
       unfold goesP eventsP pieceK
       simp only
       rw [if_neg (by unfold timedB; rw [h]; decide)]
      rw [this]
      exact hd
    ·cases hs : isSp r.sp with
     | false =>
      have hst : stepG { k with t := r.t } r rs = .ok { k with t := r.t } := by unfold stepG; rw [if_neg (by omega), if_pos h, if_pos hs]
      rw [hst]
      exact rdoes_acks_none b base _ vL vA vR vP r rs es W hKW hRW hEW hen henl h hs (IvR r rs es) ⟨hk.pin, hk.fln, hk.d, hevs (by omega) _ hst⟩ (fun i k1 e k2 h1 h2 h3 => h1.keep h2 h3) (fun i k1 h1 => h1.pin) (fun i k1 _ _ _ _ e W' h1 h2 h3 h4 => h1.call h2 hrn hrnl h3 h4)
     | true =>
      have hst : stepG { k with t := r.t } r rs = .ok (ackK { k with t := r.t } (hi0 rs)) := by unfold stepG; rw [if_neg (by omega), if_pos h, if_neg (by rw [hs]; simp)]
      rcases hack h with h0 | ⟨hsp, hne⟩
      ·rw [hs] at h0
       cases h0
      obtain ⟨y, hy⟩ : ∃ y, rs[0]? = some y := by
       cases rs with
       | nil => exact absurd rfl hne
       | cons y l => exact ⟨y, rfl⟩
      have hev0 := hevs (by omega) _ hst
      rw [hst]
      rw [show hi0 rs = y.hi by unfold hi0; rw [hy]; rfl] at hev0 ⊢
      exact rdoes_acks b base _ vL vA vR vP r rs es W hKW hRW hEW hen henl h hsp y hy hrn hrnl (IvR r rs es) ⟨hk.pin, hk.fln, hk.d, hev0⟩ (fun i k1 e k2 h1 h2 h3 => h1.keep h2 h3) (fun i k1 h1 => h1.pin) (fun i k1 _ _ _ _ e W' h1 h2 h3 h4 => h1.call h2 hrn hrnl h3 h4)
    ·have hst : stepG { k with t := r.t } r rs = .ok { k with t := r.t, got := addI k.got r.size } := by unfold stepG; rw [if_neg (by omega), if_neg (by omega), if_pos h]
     rw [hst]
     exact rdoes_gets b base _ vL vA vR vP r rs es W hKW hRW hEW hen henl h (IvR r rs es) ⟨hk.pin, hk.fln, hk.d, hevs (by omega) _ hst⟩ (fun i k1 e k2 h1 h2 h3 => h1.keep h2 h3) (fun i k1 h1 => h1.pin) (fun i k1 _ _ _ _ e W' h1 h2 h3 h4 => h1.call h2 hrn hrnl h3 h4)
    ·have hst : stepG { k with t := r.t } r rs = .ok { k with t := r.t } := by unfold stepG; rw [if_neg (by omega), if_neg (by omega), if_neg (by omega)]
     rw [hst]
     exact rdoes_timeout b base _ vL vA vR vP r rs es W hKW hRW hEW hen henl h (IvR r rs es) ⟨hk.pin, hk.fln, hk.d, hevs (by omega) _ hst⟩ (fun i k1 e k2 h1 h2 h3 => h1.keep h2 h3) (fun i k1 h1 => h1.pin) (fun i k1 _ _ _ _ e W' h1 h2 h3 h4 => h1.call h2 hrn hrnl h3 h4)
    ·have hst : stepG { k with t := r.t } r rs = .ok { k with t := r.t } := by unfold stepG; rw [if_neg (by omega), if_neg (by omega), if_neg (by omega)]
     rw [hst]
     exact rdoes_discards b base _ vL vA vR vP r rs es W hKW hRW hEW hen henl h (hdisc h) (IvR r rs es) ⟨hk.pin, hk.fln, hk.d, hevs (by omega) _ hst⟩ (fun i k1 e k2 h1 h2 h3 => h1.keep h2 h3) (fun i k1 h1 => h1.pin) (fun i k1 _ _ _ _ e W' h1 h2 h3 h4 => h1.call h2 hrn hrnl h3 h4)
    ·have hst : stepG { k with t := r.t } r rs = .ok { k with t := r.t } := by unfold stepG; rw [if_neg (by omega), if_neg (by omega), if_neg (by omega)]
     rw [hst]
     exact rdoes_nine b base _ vL vA vR vP r rs es W hKW hRW hEW hen henl h (IvR r rs es) ⟨hk.pin, hk.fln, hk.d, hevs (by omega) _ hst⟩ (fun i k1 e k2 h1 h2 h3 => h1.keep h2 h3) (fun i k1 h1 => h1.pin) (fun i k1 _ _ _ _ e W' h1 h2 h3 h4 => h1.call h2 hrn hrnl h3 h4)
end Go.Proofs.Ytidfngcclbhoaaa
