/-
 Layer 24 (judge): what is known, in memory; flight: its walk.
-/
import Derived.Test.YtidfngcclbhoaaaJgSat
import Derived.Test.YtidfngcclbhoaaaCfPlain
import Derived.Test.YtidfngcclbhoaaaRowOps
namespace Go.Proofs.Ytidfngcclbhoaaa
open List renaming getElem?_toArray → ZG, getElem?_cons_zero → ZH, getElem?_cons_succ → ZJ
open Go.Value renaming int → ZI
open Go.IntKind renaming i64 → ZQ
set_option linter.unusedSimpArgs false
set_option linter.unusedVariables false
open Go.RowKit Go.Shelf

structure OUT where
 sp : Int
 num : Int
 size : Int
 el : Bool
 fl : Bool
 pr : Bool
 ect : Bool
deriving DecidableEq
def outL (o : OUT) : List Value := [ZI ZQ o.sp, ZI ZQ o.num, ZI ZQ o.size, .bool o.el, .bool o.fl, .bool o.pr, .bool o.ect]
/-- A packet that is flying, and when it was sent. -/
structure PKT where
 o : OUT
 t : Int
deriving DecidableEq
def pktL (p : PKT) : List Value := [ZI ZQ p.o.sp, ZI ZQ p.o.num, ZI ZQ p.o.size, .bool p.o.el, .bool p.o.fl, .bool p.o.pr, .bool p.o.ect, ZI ZQ p.t]
structure PIE where
 t : Int
 window : Int
 smooth : Int
def pieL (p : PIE) : List Value := [ZI ZQ p.t, ZI ZQ p.window, ZI ZQ p.smooth]
structure PCD where
 t : Int
 size : Int
def pcdL (p : PCD) : List Value := [ZI ZQ p.t, ZI ZQ p.size]
/-- What is known. -/
structure KN where
 c : CF
 t : Int
 window : Int
 got : Int
 sent : Int
 valid : Bool
 shut : Bool
 flying : List PKT
 last : Nat → Int
 top : Nat → Int
 own : Nat → Int
 told : Bool
 pieces : List PIE
 paced : List PCD
def knC (k : KN) (vf vp vd : Value) : Array Value :=
 #[.bool k.c.sv, ZI ZQ k.c.d, ZI ZQ k.c.first, ZI ZQ k.c.most, ZI ZQ k.c.rtt, ZI ZQ k.c.delay, ZI ZQ k.c.ex, ZI ZQ k.c.burst, ZI ZQ k.c.room, ZI ZQ k.c.backs,
  ZI ZQ k.t, ZI ZQ k.window, ZI ZQ k.got, ZI ZQ k.sent, .bool k.valid, .bool k.shut, vf,
  ZI ZQ (k.last 0), ZI ZQ (k.last 1), ZI ZQ (k.last 2), ZI ZQ (k.top 0), ZI ZQ (k.top 1), ZI ZQ (k.top 2), ZI ZQ (k.own 0), ZI ZQ (k.own 1), ZI ZQ (k.own 2), .bool k.told, vp, vd]
structure KnAt (W : World) (b base : Nat) (k : KN) (vf vp vd : Value) : Prop where
 blk : Blk W b 58 (knC k vf vp vd)
 fl : W.ownsRow base 106 8 vf k.flying.length (k.flying.flatMap pktL)
 pc : W.ownsRow base 53 3 vp k.pieces.length (k.pieces.flatMap pieL)
 pd : W.ownsRow base 104 2 vd k.paced.length (k.paced.flatMap pcdL)
 ge : base ≤ b
theorem own_below {B : Nat} {e : TypeId} {k : Nat} {v : Value} {n : Nat} {xs : List Value} {w w' : World} (h : w.ownsRow B e k v n xs) (hb : Below w.heap.size w w') : w'.ownsRow B e k v n xs := by
 refine ⟨h.1, ?_⟩
 rcases h.2 with h0 | ⟨g, cap, cur, hv, hg, hh, r⟩
 ·exact .inl h0
 ·exact .inr ⟨g, cap, cur, hv, hg, (hb.block _ (Blk.lt hh)).trans hh, r⟩
theorem KnAt.later {w w' : World} {b base : Nat} {k : KN} {vf vp vd : Value} (h : KnAt w b base k vf vp vd) (hb : Below w.heap.size w w') : KnAt w' b base k vf vp vd :=
 ⟨(hb.block _ h.blk.lt).trans h.blk, own_below h.fl hb, own_below h.pc hb, own_below h.pd hb, h.ge⟩
theorem KnAt.drew {w : World} {b base : Nat} {k : KN} {vf vp vd : Value} (h : KnAt w b base k vf vp vd) : KnAt w.drew b base k vf vp vd := h.later (below_drewN (Below.refl _ _) 1)
/-- The cells of a row of the call's own. -/
theorem own_row {w : World} {base e size n : Nat} {v : Value} {xs : List Value} (h : w.ownsRow base e size v n xs) (hn : 1 ≤ n) : ∃ g c, v = .slice (some ⟨g, 0, none⟩) n c ∧ g < w.heap.size ∧ ∀ j u, xs[j]? = some u → w.cell? ⟨g, j, none⟩ = some u := by
 obtain ⟨g, cap, rest, hv, _, _, hb⟩ := own_blk h hn
 refine ⟨g, cap, hv, hb.lt, fun j u hu => ?_⟩
 rw [hb.cell, ZG, List.getElem?_append_left (List.getElem?_eq_some_iff.1 hu).1]
 exact hu
theorem own_sl {w : World} {base e size n : Nat} {v : Value} {xs : List Value} (h : w.ownsRow base e size v n xs) : ∃ A c, v = .slice A n c := by
 rcases h.2 with ⟨h0, h1⟩ | ⟨g, cap, cur, hv, _⟩
 ·exact ⟨none, 0, by rw [h0, h1]⟩
 ·exact ⟨_, _, hv⟩
theorem below2' {w w1 w2 : World} (h : Below w.heap.size w w1) (hB : Below w1.heap.size w1 w2) : Below w.heap.size w w2 := h.trans (hB.mono h.size)
def flightP : List PKT → Int
 | [] => 0
 | p :: l => (if p.o.fl then p.o.size else 0) + flightP l
theorem flightP_snoc : ∀ (l : List PKT) (p : PKT), flightP (l ++ [p]) = flightP l + if p.o.fl then p.o.size else 0
 | [], p => by simp [flightP]
 | q :: l, p => by
  rw [List.cons_append, flightP, flightP, flightP_snoc l p]
  omega
def okP (p : PKT) : Prop := 1 ≤ p.o.size ∧ p.o.size ≤ 65535
theorem flightP_bd : ∀ (l : List PKT), (∀ p ∈ l, okP p) → 0 ≤ flightP l ∧ flightP l ≤ 65535 * l.length
 | [], _ => by simp [flightP]
 | p :: l, h => by
  have h1 := flightP_bd l (fun x hx => h x (List.mem_cons_of_mem _ hx))
  have h2 := h p (by simp)
  unfold okP at h2
  rw [flightP, List.length_cons]
  split <;> omega
theorem pktL_length (p : PKT) : (pktL p).length = 8 := rfl
theorem pieL_length (p : PIE) : (pieL p).length = 3 := rfl
theorem pcdL_length (p : PCD) : (pcdL p).length = 2 := rfl
/-- The cells of one packet of a row. -/
theorem pkt_cells {w : World} {base n c : Nat} {A : Option Addr} {l : List PKT} {i : Nat} {p : PKT} (h : w.ownsRow base 106 8 (.slice A n c) n (l.flatMap pktL)) (hn : l.length = n) (hi : l[i]? = some p) :
  ∃ g, A = some ⟨g, 0, none⟩ ∧ g < w.heap.size ∧ ∀ j u, j < 8 → (pktL p)[j]? = some u → w.cell? ⟨g, i * 8 + j, none⟩ = some u := by
 have hil := (List.getElem?_eq_some_iff.1 hi).1
 obtain ⟨g, c', hv, hg, hc⟩ := own_row h (by omega)
 cases hv
 refine ⟨g, rfl, hg, fun j u hj hu => hc _ _ ?_⟩
 rw [flat_cell pktL 8 pktL_length l i j hj, hi]
 exact hu
theorem pie_cells {w : World} {base n c : Nat} {A : Option Addr} {l : List PIE} {i : Nat} {p : PIE} (h : w.ownsRow base 53 3 (.slice A n c) n (l.flatMap pieL)) (hn : l.length = n) (hi : l[i]? = some p) :
  ∃ g, A = some ⟨g, 0, none⟩ ∧ g < w.heap.size ∧ ∀ j u, j < 3 → (pieL p)[j]? = some u → w.cell? ⟨g, i * 3 + j, none⟩ = some u := by
 have hil := (List.getElem?_eq_some_iff.1 hi).1
 obtain ⟨g, c', hv, hg, hc⟩ := own_row h (by omega)
 cases hv
 refine ⟨g, rfl, hg, fun j u hj hu => hc _ _ ?_⟩
 rw [flat_cell pieL 3 pieL_length l i j hj, hi]
 exact hu
set_option maxRecDepth 100000 in
set_option maxHeartbeats 4000000 in
theorem flight_any (b base : Nat) (k : KN) (vf vp vd : Value) (w : World) (hK : KnAt w b base k vf vp vd) (hs : ∀ p ∈ k.flying, okP p) (hl : k.flying.length ≤ 2000) :
  Calls Try.prog 54 #[.pointer (some ⟨b, 0, none⟩)] w fun e w' => e = .returned (ZI ZQ (flightP k.flying)) ∧ Below w.heap.size w w' := by
 have HK := hide hK
 have HS := hide hs
 have q16 := hK.blk.cell 16
 have HFL := hide hK.fl
 obtain ⟨A, c, rfl⟩ := own_sl hK.fl
 obtain ⟨l, hfl⟩ : ∃ l, k.flying = l := ⟨_, rfl⟩
 rw [hfl] at hl HS HFL q16 ⊢
 simp only [knC, hfl, ZG, ZH, ZJ] at q16
 obtain ⟨N, hN⟩ : ∃ N, l.length = N := ⟨_, rfl⟩
 have HN := hide hN
 rw [hN] at hl q16 HFL
 have HFL2 := hide HFL.out
 clear hK hs hfl hN HFL HK
 go_enter Try.func54, Try.ntmps54
 go_wp2_with fail
 go_loopg [2, 10] N (fun kx s2 s10 wr => ∃ i : Nat, s10 = ZI ZQ i ∧ s2 = ZI ZQ (flightP (l.take i)) ∧ i ≤ N ∧ N - i ≤ kx ∧ Below w.heap.size w wr)
 case atStart => exact ⟨0, rfl, rfl, by omega, by omega, Below.refl _ _⟩
 case round =>
  obtain ⟨i, rfl, rfl, hi, hkx, hB⟩ := hrel
  have HB := hide hB
  have HFR := hide (own_below HFL2.out hB)
  clear hB
  by_cases hlt : i < N
  ·have hlti : (i : Int) < (N : Int) := by omega
   have hi0 : (0 : Int) ≤ (i : Int) := by omega
   obtain ⟨p, hp⟩ : ∃ p, l[i]? = some p := ⟨_, List.getElem?_eq_getElem (by rw [HN.out]; exact hlt)⟩
   obtain ⟨g, rfl, hg, hz⟩ := pkt_cells HFR.out HN.out hp
   have z0 := hz 0 _ (by omega) rfl
   have z1 := hz 1 _ (by omega) rfl
   have z2 := hz 2 _ (by omega) rfl
   have z3 := hz 3 _ (by omega) rfl
   have z4 := hz 4 _ (by omega) rfl
   have z5 := hz 5 _ (by omega) rfl
   have z6 := hz 6 _ (by omega) rfl
   have z7 := hz 7 _ (by omega) rfl
   simp only [Nat.add_zero] at z0
   have hst : flightP (l.take (i + 1)) = flightP (l.take i) + if p.o.fl then p.o.size else 0 := by
    rw [List.take_add_one, hp]
    exact flightP_snoc _ _
   have hbd := flightP_bd (l.take i) (fun x hx => HS.out x (List.mem_of_mem_take hx))
   have hpo := HS.out p (List.mem_of_getElem? hp)
   unfold okP at hpo
   have hln : (l.take i).length ≤ 2000 := by rw [List.length_take]; omega
   have HB2 := hide (below2' HB.out ((Below.refl wr.heap.size wr).alloc (Nat.le_refl _) (.cells (pktL p).toArray 106)))
   obtain ⟨⟨sp, num, size, el, fl, pr, ect⟩, t⟩ := p
   simp only [pktL] at HB2
   simp only [] at z0 z1 z2 z3 z4 z5 z6 z7 hst hpo
   obtain ⟨n, hn⟩ : ∃ n, flightP (l.take i) = n := ⟨_, rfl⟩
   rw [hn] at hst hbd ⊢
   have HST := hide hst
   clear hz hp hst hn
   cases fl with
   | true =>
    go_wp2_with fail
    go_roundg (N - (i + 1))
    case rel => exact ⟨i + 1, by go_num, by rw [HST.out]; rfl, by omega, by omega, HB2.out⟩
    case measure => omega
   | false =>
    go_wp2_with fail
    go_roundg (N - (i + 1))
    case rel => exact ⟨i + 1, by go_num, by rw [HST.out]; simp, by omega, by omega, HB2.out⟩
    case measure => omega
  ·obtain rfl : i = N := by omega
   have htk : l.take i = l := List.take_of_length_le (by rw [HN.out]; exact Nat.le_refl _)
   rw [htk]
   clear htk
   go_wp2_with fail
   exact bodyPost_ret (v := ZI ZQ (flightP l)) (by simp [results, Try.results54, go_sem]) rfl ⟨rfl, HB.out⟩
end Go.Proofs.Ytidfngcclbhoaaa
