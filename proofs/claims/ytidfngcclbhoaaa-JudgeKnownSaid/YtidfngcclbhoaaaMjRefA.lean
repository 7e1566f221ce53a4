/-
 The document: its numbers, what it knows, place, has, gone, events: 6 texts in one (JrSat, JrRep, JrPlace, JrHas, JrGone, JrEvent).
-/
import Derived.Test.YtidfngcclbhoaaaJgRowG
import Derived.StillTail
import Derived.Deep.RegionHeld3
namespace Go.Proofs.Ytidfngcclbhoaaa
open List renaming getElem?_toArray → ZG, getElem?_cons_zero → ZH, getElem?_cons_succ → ZJ
open Go.Value renaming int → ZI
open Go.IntKind renaming i64 → ZQ
set_option linter.unusedSimpArgs false
set_option linter.unusedVariables false
open Go.RowKit Go.Shelf
theorem rnum_any (n : Int) (w : World) : Calls Try.prog 88 #[ZI ZQ n] w fun e w' => e = .returned (ZI ZQ (numI n)) ∧ w = w' := by
 have hm : numI n = max 0 (min n 9007199254740991) := by
  unfold numI
  split
  ·omega
  ·split <;> omega
 have HM := hide hm
 clear hm
 go_enter Try.func88, Try.ntmps88
 go_wp2_with fail
 all_goals
  go_ret
  exact ⟨by rw [HM.out]; rfl, rfl⟩
theorem ris_any (n : Int) (w : World) : Calls Try.prog 65 #[ZI ZQ n] w fun e w' => e = .returned (.bool (isN n)) ∧ w = w' := by
 by_cases h0 : 0 ≤ n
 ·by_cases h1 : n ≤ 9007199254740991
  all_goals
   go_enter Try.func65, Try.ntmps65
   go_wp2_with fail
   go_ret
   exact ⟨by simp [isN, h0]; omega, rfl⟩
 ·go_enter Try.func65, Try.ntmps65
  go_wp2_with fail
  go_ret
  exact ⟨by simp [isN]; omega, rfl⟩
theorem rspace_any (n : Int) (w : World) : Calls Try.prog 77 #[ZI ZQ n] w fun e w' => e = .returned (.bool (isSp n)) ∧ w = w' := by
 by_cases h0 : 0 ≤ n
 ·by_cases h1 : n ≤ 2
  all_goals
   go_enter Try.func77, Try.ntmps77
   go_wp2_with fail
   go_ret
   exact ⟨by simp [isSp, h0]; omega, rfl⟩
 ·go_enter Try.func77, Try.ntmps77
  go_wp2_with fail
  go_ret
  exact ⟨by simp [isSp]; omega, rfl⟩
theorem radd_any (a b : Int) (w : World) : Calls Try.prog 78 #[ZI ZQ a, ZI ZQ b] w fun e w' => e = .returned (ZI ZQ (addI a b)) ∧ w = w' := by
 have h1 := hide (fun W => rnum_any a W)
 have h2 := hide (fun W => rnum_any b W)
 have b1 := numI_bd a
 have b2 := numI_bd b
 obtain ⟨x, hx⟩ : ∃ x, numI a = x := ⟨_, rfl⟩
 obtain ⟨y, hy⟩ : ∃ x, numI b = x := ⟨_, rfl⟩
 have hr : addI a b = numI (x + y) := by unfold addI; rw [hx, hy]
 have HR := hide hr
 rw [hx] at h1 b1
 rw [hy] at h2 b2
 have h3 := hide (fun W => rnum_any (x + y) W)
 clear hx hy hr
 go_enter Try.func78, Try.ntmps78
 go_wp2_with fail
 with_reducible refine (h1.out _).mono ?_
 rintro y1 u1 ⟨rfl, rfl⟩
 go_wp2_with fail
 with_reducible refine (h2.out _).mono ?_
 rintro y2 u2 ⟨rfl, rfl⟩
 go_wp2_with fail
 with_reducible refine (h3.out _).mono ?_
 rintro y3 u3 ⟨rfl, rfl⟩
 go_wp2_with fail
 go_ret
 exact ⟨by rw [HR.out]; rfl, rfl⟩
set_option maxHeartbeats 2000000 in
theorem rparts3 (b : Int) (hb : 0 ≤ b ∧ b ≤ 1000000) (w : World) : Calls Try.prog 98 #[ZI ZQ 3, ZI ZQ b, ZI ZQ 1] w fun e w' => e = .returned (.tuple #[ZI ZQ (3 * b), ZI ZQ 0]) ∧ w = w' := by
 have h1 := hide (fun W => rnum_any 3 W)
 have h2 := hide (fun W => rnum_any b W)
 have h3 := hide (fun W => rnum_any 1 W)
 rw [numI_in (by omega) (by omega)] at h1
 rw [numI_in (by omega) (by omega)] at h2
 rw [numI_in (by omega) (by omega)] at h3
 go_enter Try.func98, Try.ntmps98
 go_wp2_with fail
 with_reducible refine (h1.out _).mono ?_
 rintro y1 u1 ⟨rfl, rfl⟩
 go_wp2_with fail
 with_reducible refine (h2.out _).mono ?_
 rintro y2 u2 ⟨rfl, rfl⟩
 go_wp2_with fail
 with_reducible refine (h3.out _).mono ?_
 rintro y3 u3 ⟨rfl, rfl⟩
 go_wp2_with fail
 go_loopg [8, 9, 10] 60 (fun kx s8 s9 s10 wr => w = wr ∧ ∃ B q : Int, s8 = ZI ZQ q ∧ s9 = ZI ZQ 0 ∧ s10 = ZI ZQ B ∧ ((∃ j : Nat, 2 ≤ j ∧ j ≤ 52 ∧ Hid (B = 2 ^ j) ∧ q = 0 ∧ j + 3 ≤ kx) ∨ (B = 2 ∧ q = 0 ∧ 3 ≤ kx) ∨ (B = 1 ∧ q = b ∧ 2 ≤ kx) ∨ (B = 0 ∧ q = 3 * b ∧ 1 ≤ kx)))
 case atStart => exact ⟨rfl, 4503599627370496, 0, rfl, rfl, rfl, .inl ⟨52, by omega, by omega, by show _ = _; decide, rfl, by omega⟩⟩
 case round =>
  obtain ⟨rfl, B, q, rfl, rfl, rfl, ⟨j, hj2, hj52, hB, rfl, hkx⟩ | ⟨rfl, rfl, hkx⟩ | ⟨rfl, rfl, hkx⟩ | ⟨rfl, rfl, hkx⟩⟩ := hrel
  ·obtain ⟨i, rfl⟩ : ∃ i, j = i + 2 := ⟨j - 2, by omega⟩
   have hBB : B = 2 ^ (i + 2) := hB
   obtain ⟨C, hC⟩ : ∃ C : Int, 2 ^ (i + 1) = C := ⟨_, rfl⟩
   have hBC : B = 2 * C := by rw [hBB, ← hC, Int.pow_succ 2 (i + 1)]; omega
   have hC2 : 2 ≤ C := by
    rw [← hC]
    have h1 : 2 ≤ 2 ^ (i + 1) := by rw [Nat.pow_succ]; have := Nat.one_le_two_pow (n := i); omega
    exact_mod_cast h1
   have hCm : C ≤ 4503599627370496 := by
    rw [← hC]
    have h1 : 2 ^ (i + 1) ≤ 4503599627370496 := Nat.le_trans (Nat.pow_le_pow_right (n := 2) (i := i + 1) (j := 52) (by decide) (by omega)) (by decide)
    have h2 : ((2 ^ (i + 1) : Nat) : Int) = (2 : Int) ^ (i + 1) := by rw [Int.natCast_pow]; rfl
    omega
   have HC := hide hC
   have hq1 : (3 : Int) / B = 0 := Int.ediv_eq_zero_of_lt (by omega) (by omega)
   have hq2 : B / 2 = C := by omega
   have hB4 : 4 ≤ B := by omega
   have hBm : B ≤ 9007199254740992 := by omega
   clear hB hBB hC hBC
   go_wp2_with fail
   go_roundg (i + 4)
   case rel =>
    refine ⟨rfl, C, 0, rfl, rfl, by rw [hq2], ?_⟩
    cases i with
    | zero => exact .inr (.inl ⟨HC.out.symm, rfl, by omega⟩)
    | succ i => exact .inl ⟨i + 2, by omega, by omega, by show _ = _; rw [← HC.out], rfl, by omega⟩
   case measure => omega
  ·go_wp2_with fail
   go_roundg 2
   case rel => exact ⟨rfl, 1, _, rfl, rfl, rfl, .inr (.inr (.inl ⟨rfl, rfl, by omega⟩))⟩
   case measure => omega
  ·go_wp2_with fail
   go_roundg 1
   case rel => exact ⟨rfl, 0, _, rfl, rfl, rfl, .inr (.inr (.inr ⟨rfl, by omega, by omega⟩))⟩
   case measure => omega
  ·go_wp2_with fail
   go_ret2
   exact ⟨rfl, rfl⟩
theorem rmul3 (b : Int) (hb : 0 ≤ b ∧ b ≤ 1000000) (w : World) : Calls Try.prog 86 #[ZI ZQ 3, ZI ZQ b] w fun e w' => e = .returned (ZI ZQ (numI (3 * b))) ∧ w = w' := by
 have h1 := hide (fun W => rparts3 b hb W)
 have hm : Calls Try.prog 95 #[ZI ZQ 3, ZI ZQ b, ZI ZQ 1] w fun e w' => e = .returned (ZI ZQ (3 * b)) ∧ w = w' := by
  go_enter Try.func95, Try.ntmps95
  go_wp2_with fail
  with_reducible refine (h1.out _).mono ?_
  rintro y1 u1 ⟨rfl, rfl⟩
  go_wp2_with fail
  go_ret
  exact ⟨rfl, rfl⟩
 have HM := hide hm
 clear hm
 go_enter Try.func86, Try.ntmps86
 go_wp2_with fail
 with_reducible refine HM.out.mono ?_
 rintro y1 u1 ⟨rfl, rfl⟩
 go_wp2_with fail
 go_ret
 exact ⟨by rw [numI_in (by omega) (by omega)]; rfl, rfl⟩
end Go.Proofs.Ytidfngcclbhoaaa

namespace Go.Proofs.Ytidfngcclbhoaaa
open List renaming getElem?_toArray → ZG, getElem?_cons_zero → ZH, getElem?_cons_succ → ZJ
open Go.Value renaming int → ZI
open Go.IntKind renaming i64 → ZQ
set_option linter.unusedSimpArgs false
set_option linter.unusedVariables false
open Go.RowKit Go.Shelf
def krC (k : KN) (vL vA vR vP : Value) : Array Value :=
 #[.bool k.c.sv, ZI ZQ k.c.d, ZI ZQ k.c.first, ZI ZQ k.c.most, ZI ZQ k.c.rtt, ZI ZQ k.c.delay, ZI ZQ k.c.ex, ZI ZQ k.c.burst, ZI ZQ k.c.room, ZI ZQ k.c.backs,
  ZI ZQ k.t, ZI ZQ k.window, ZI ZQ k.got, ZI ZQ k.sent, .bool k.valid, .bool k.shut, vL, vA,
  ZI ZQ (k.last 0), ZI ZQ (k.last 1), ZI ZQ (k.last 2), ZI ZQ (k.top 0), ZI ZQ (k.top 1), ZI ZQ (k.top 2), ZI ZQ (k.own 0), ZI ZQ (k.own 1), ZI ZQ (k.own 2), .bool k.told, vR, vP]
def oL (p : PKT) : List Value := outL p.o
def tL (p : PKT) : List Value := [ZI ZQ p.t]
theorem oL_length (p : PKT) : (oL p).length = 7 := rfl
theorem tL_length (p : PKT) : (tL p).length = 1 := rfl
/-- What the document knows, in memory. -/
structure KrAt (W : World) (b base : Nat) (k : KN) (vL vA vR vP : Value) : Prop where
 blk : Blk W b 92 (krC k vL vA vR vP)
 l : W.ownsRow base 28 7 vL k.flying.length (k.flying.flatMap oL)
 a : W.ownsRow base 3 1 vA k.flying.length (k.flying.flatMap tL)
 r : W.ownsRow base 30 3 vR k.pieces.length (k.pieces.flatMap pieL)
 p : W.ownsRow base 127 2 vP k.paced.length (k.paced.flatMap pcdL)
 ge : base ≤ b
theorem KrAt.later {w w' : World} {b base : Nat} {k : KN} {vL vA vR vP : Value} (h : KrAt w b base k vL vA vR vP) (hb : Below w.heap.size w w') : KrAt w' b base k vL vA vR vP :=
 ⟨(hb.block _ h.blk.lt).trans h.blk, own_below h.l hb, own_below h.a hb, own_below h.r hb, own_below h.p hb, h.ge⟩
theorem KrAt.drew {w : World} {b base : Nat} {k : KN} {vL vA vR vP : Value} (h : KrAt w b base k vL vA vR vP) : KrAt w.drew b base k vL vA vR vP := h.later (below_drewN (Below.refl _ _) 1)
theorem KrAt.put {W : World} {b base : Nat} {k : KN} {vL vA vR vP : Value} (h : KrAt W b base k vL vA vR vP) (i : Nat) (u : Value) (k' : KN) (hc : (krC k vL vA vR vP).setIfInBounds i u = krC k' vL vA vR vP)
  (hf : k'.flying = k.flying) (hp : k'.pieces = k.pieces) (hd : k'.paced = k.paced) : KrAt (W.setCell ⟨b, i, none⟩ u) b base k' vL vA vR vP := by
 refine ⟨(h.blk.set i u).eq hc, ?_, ?_, ?_, ?_, h.ge⟩
 ·rw [hf]
  exact own_far h.l (own_ne h.l h.blk (by decide)) _
 ·rw [hf]
  exact own_far h.a (own_ne h.a h.blk (by decide)) _
 ·rw [hp]
  exact own_far h.r (own_ne h.r h.blk (by decide)) _
 ·rw [hd]
  exact own_far h.p (own_ne h.p h.blk (by decide)) _
/-- Below a block nothing has turned; nor has any block that is not of what the document knows. -/
structure FarR (B : Nat) (w W : World) : Prop where
 bl : Below B w W
 kept : ∀ {g t : Nat} {cs : Array Value}, Blk w g t cs → t ≠ 92 → t ≠ 28 → t ≠ 3 → t ≠ 30 → t ≠ 127 → Blk W g t cs
theorem FarR.of_below {B : Nat} {w W : World} (hb : Below w.heap.size w W) (hB : B ≤ w.heap.size) : FarR B w W := ⟨hb.mono hB, fun h _ _ _ _ _ => (hb.block _ h.lt).trans h⟩
theorem FarR.refl {B : Nat} {w : World} : FarR B w w := ⟨Below.refl _ _, fun h _ _ _ _ _ => h⟩
theorem FarR.trans {B : Nat} {w W W' : World} (h : FarR B w W) (k : FarR B W W') : FarR B w W' := ⟨h.bl.trans k.bl, fun hg a b c d e => k.kept (h.kept hg a b c d e) a b c d e⟩
theorem FarR.later {B : Nat} {w W W' : World} (h : FarR B w W) (hb : Below W.heap.size W W') (hB : B ≤ W.heap.size) : FarR B w W' := h.trans (FarR.of_below hb hB)
theorem FarR.set {B b : Nat} {cs : Array Value} {w W : World} (h : FarR B w W) (hb : Blk W b 92 cs) (hge : B ≤ b) (i : Nat) (u : Value) : FarR B w (W.setCell ⟨b, i, none⟩ u) :=
 ⟨h.bl.setCell (p := ⟨b, i, none⟩) hge u, fun hg a1 a2 a3 a4 a5 => (h.kept hg a1 a2 a3 a4 a5).far (p := ⟨b, i, none⟩) (blk_ne (h.kept hg a1 a2 a3 a4 a5) hb a1) u⟩
theorem FarR.grown {B e s n : Nat} {v : Value} {xs : List Value} {w W W' : World} (h : FarR B w W) (ho : W.ownsRow B e s v n xs) (he : e = 28 ∨ e = 3 ∨ e = 30 ∨ e = 127) (hg : W.grownBy W' v.ownBlock) (hB : B ≤ W.heap.size) : FarR B w W' :=
 ⟨Below.grown h.bl hg hB (fun g e => (ho.lt g e).1), fun hb a1 a2 a3 a4 a5 => blk_grown (h.kept hb a1 a2 a3 a4 a5) hg (own_ne ho (h.kept hb a1 a2 a3 a4 a5) (by rcases he with rfl | rfl | rfl | rfl <;> (intro e; subst e; contradiction)))⟩
/-- The cells of one flying packet of a row. -/
theorem out_cells {w : World} {base n c : Nat} {A : Option Addr} {l : List PKT} {i : Nat} {p : PKT} (h : w.ownsRow base 28 7 (.slice A n c) n (l.flatMap oL)) (hn : l.length = n) (hi : l[i]? = some p) :
  ∃ g, A = some ⟨g, 0, none⟩ ∧ g < w.heap.size ∧ ∀ j u, j < 7 → (oL p)[j]? = some u → w.cell? ⟨g, i * 7 + j, none⟩ = some u := by
 have hil := (List.getElem?_eq_some_iff.1 hi).1
 obtain ⟨g, c', hv, hg, hc⟩ := own_row h (by omega)
 cases hv
 refine ⟨g, rfl, hg, fun j u hj hu => hc _ _ ?_⟩
 rw [flat_cell oL 7 oL_length l i j hj, hi]
 exact hu
set_option maxRecDepth 100000 in
set_option maxHeartbeats 4000000 in
theorem rflight_any (b base : Nat) (k : KN) (vL vA vR vP : Value) (w : World) (hK : KrAt w b base k vL vA vR vP) (hs : ∀ p ∈ k.flying, okP p) (hl : k.flying.length ≤ 2000) :
  Calls Try.prog 85 #[.pointer (some ⟨b, 0, none⟩)] w fun e w' => e = .returned (ZI ZQ (flightP k.flying)) ∧ w = w' := by
 have HS := hide hs
 have q16 := hK.blk.cell 16
 obtain ⟨A, c, rfl⟩ := own_sl hK.l
 have HFL := hide hK.l
 obtain ⟨l, hfl⟩ : ∃ l, k.flying = l := ⟨_, rfl⟩
 rw [hfl] at hl HS HFL q16 ⊢
 simp only [krC, hfl, ZG, ZH, ZJ] at q16
 obtain ⟨N, hN⟩ : ∃ N, l.length = N := ⟨_, rfl⟩
 have HN := hide hN
 rw [hN] at hl q16 HFL
 clear hK hs hfl hN
 go_enter Try.func85, Try.ntmps85
 go_wp2_with fail
 go_loopg [3, 4] N (fun kx s3 s4 wr => w = wr ∧ ∃ i : Nat, s4 = ZI ZQ i ∧ s3 = ZI ZQ (flightP (l.take i)) ∧ i ≤ N ∧ N - i ≤ kx)
 case atStart => exact ⟨rfl, 0, rfl, rfl, by omega, by omega⟩
 case round =>
  obtain ⟨rfl, i, rfl, rfl, hi, hkx⟩ := hrel
  by_cases hlt : i < N
  ·have hlti : (i : Int) < (N : Int) := by omega
   obtain ⟨p, hp⟩ : ∃ p, l[i]? = some p := ⟨_, List.getElem?_eq_getElem (by rw [HN.out]; exact hlt)⟩
   obtain ⟨g, rfl, hg, hz⟩ := out_cells HFL.out HN.out hp
   have z2 := hz 2 _ (by omega) rfl
   have z4 := hz 4 _ (by omega) rfl
   have hst : flightP (l.take (i + 1)) = flightP (l.take i) + if p.o.fl then p.o.size else 0 := by
    rw [List.take_add_one, hp]
    exact flightP_snoc _ _
   have hbd := flightP_bd (l.take i) (fun x hx => HS.out x (List.mem_of_mem_take hx))
   have hpo := HS.out p (List.mem_of_getElem? hp)
   unfold okP at hpo
   have hln : (l.take i).length ≤ 2000 := by rw [List.length_take]; omega
   obtain ⟨⟨sp, num, size, el, fl, pr, ect⟩, t⟩ := p
   simp only [] at z2 z4 hst hpo
   obtain ⟨n, hn⟩ : ∃ n, flightP (l.take i) = n := ⟨_, rfl⟩
   rw [hn] at hst hbd ⊢
   have HST := hide hst
   clear hz hp hst hn
   cases fl with
   | true =>
    go_wp2_with fail
    go_roundg (N - (i + 1))
    case rel => exact ⟨rfl, i + 1, by go_num, by rw [HST.out]; rfl, by omega, by omega⟩
    case measure => omega
   | false =>
    go_wp2_with fail
    go_roundg (N - (i + 1))
    case rel => exact ⟨rfl, i + 1, by go_num, by rw [HST.out]; simp, by omega, by omega⟩
    case measure => omega
  ·obtain rfl : i = N := by omega
   have htk : l.take i = l := List.take_of_length_le (by rw [HN.out]; exact Nat.le_refl _)
   rw [htk]
   clear htk
   go_wp2_with fail
   go_ret
   exact ⟨rfl, rfl⟩
end Go.Proofs.Ytidfngcclbhoaaa

namespace Go.Proofs.Ytidfngcclbhoaaa
open List renaming getElem?_toArray → ZG, getElem?_cons_zero → ZH, getElem?_cons_succ → ZJ
open Go.Value renaming int → ZI
open Go.IntKind renaming i64 → ZQ
set_option linter.unusedSimpArgs false
set_option linter.unusedVariables false
open Go.RowKit Go.Shelf
set_option maxRecDepth 100000 in
set_option maxHeartbeats 4000000 in
theorem rplace_any (b base : Nat) (k : KN) (vL vA vR vP : Value) (e : EVJ) (w : World) (hK : KrAt w b base k vL vA vR vP) (hl : k.flying.length ≤ 2000) :
  Calls Try.prog 89 #[.pointer (some ⟨b, 0, none⟩), .agg #[ZI ZQ e.kind, ZI ZQ e.sp, ZI ZQ e.num, ZI ZQ e.n]] w fun e' w' => e' = .returned (ZI ZQ (idxF (atP e) k.flying 0)) ∧ Below w.heap.size w w' := by
 obtain ⟨A, c, rfl⟩ := own_sl hK.l
 have hb0 : Below w.heap.size w (w.alloc (.cells #[ZI ZQ e.kind, ZI ZQ e.sp, ZI ZQ e.num, ZI ZQ e.n] 46)) := (Below.refl _ _).alloc (Nat.le_refl _) _
 have hX := Blk.new w 46 #[ZI ZQ e.kind, ZI ZQ e.sp, ZI ZQ e.num, ZI ZQ e.n]
 have hK1 := hK.later hb0
 obtain ⟨W1, hW1⟩ : ∃ x, w.alloc (.cells #[ZI ZQ e.kind, ZI ZQ e.sp, ZI ZQ e.num, ZI ZQ e.n] 46) = x := ⟨_, rfl⟩
 obtain ⟨X, hXq⟩ : ∃ x, w.heap.size = x := ⟨_, rfl⟩
 rw [hW1] at hb0 hX hK1
 rw [hXq] at hX
 have HB0 := hide hb0
 have HST := hide (show ∀ W', Below W1.heap.size W1 W' → KrAt W' b base k (.slice A k.flying.length c) vA vR vP ∧ Blk W' X 46 #[ZI ZQ e.kind, ZI ZQ e.sp, ZI ZQ e.num, ZI ZQ e.n] from fun W' hb => ⟨hK1.later hb, (hb.block _ hX.lt).trans hX⟩)
 obtain ⟨l, hfl⟩ : ∃ l, k.flying = l := ⟨_, rfl⟩
 obtain ⟨N, hN⟩ : ∃ N, l.length = N := ⟨_, rfl⟩
 have HFL := hide hfl
 have HN := hide hN
 rw [hfl] at hl ⊢
 rw [hN] at hl
 obtain ⟨ek, es, em, ee⟩ := e
 simp only at hW1 HST ⊢
 clear hb0 hX hK1 hK hfl hN
 go_enter Try.func89, Try.ntmps89
 go_upto_region 1 with (fail)
 try rw [hW1]
 try rw [hXq]
 clear hW1 hXq
 go_wp2_with fail
 go_loopg [5] N (fun kx s5 wr => ∃ i : Nat, s5 = ZI ZQ i ∧ i ≤ N ∧ N - i ≤ kx ∧ Hid (idxF (atP ⟨ek, es, em, ee⟩) l 0 = idxF (atP ⟨ek, es, em, ee⟩) (l.drop i) i) ∧ Below W1.heap.size W1 wr)
 case atStart => exact ⟨0, rfl, by omega, by omega, rfl, Below.refl _ _⟩
 case round =>
  obtain ⟨i, rfl, hi, hkx, hany, hB⟩ := hrel
  obtain ⟨hK, hX⟩ := HST.out wr hB
  have q16 := hK.blk.cell 16
  have x1 := hX.cell 1
  have x2 := hX.cell 2
  have x3 := hX.cell 3
  simp only [krC, HFL.out, HN.out, ZG, ZH, ZJ] at q16 x1 x2 x3
  have HOW := hide hK.l
  rw [HFL.out, HN.out] at HOW
  have HB := hide hB
  clear hB hX hK
  by_cases hlt : i < N
  ·have hir : i < l.length := by rw [HN.out]; exact hlt
   obtain ⟨p, hp⟩ : ∃ p, l[i]? = some p := ⟨_, List.getElem?_eq_getElem hir⟩
   have hd : l.drop i = p :: l.drop (i + 1) := by
    rw [List.drop_eq_getElem_cons hir]
    congr 1
    rw [List.getElem?_eq_getElem hir] at hp
    exact Option.some.inj hp
   obtain ⟨g, rfl, hg, hz⟩ := out_cells HOW.out HN.out hp
   have z0 := hz 0 _ (by omega) rfl
   have z1 := hz 1 _ (by omega) rfl
   have z2 := hz 2 _ (by omega) rfl
   simp only [Nat.add_zero] at z0
   have HA : Hid (idxF (atP ⟨ek, es, em, ee⟩) l 0 = if atP ⟨ek, es, em, ee⟩ p then (i : Int) else idxF (atP ⟨ek, es, em, ee⟩) (l.drop (i + 1)) (i + 1)) := by show _ = _; rw [hany, hd]; rfl
   have hin : (i : Int) < (N : Int) := by omega
   have hi0 : (0 : Int) ≤ (i : Int) := by omega
   have HBD := hide (fun n => below_drewN HB.out n)
   obtain ⟨⟨sp, num, size, el, fl, pr, ect⟩, t⟩ := p
   simp only at z0 z1 z2
   clear hany hd hp hir hz
   have hways : ((sp == es) = false) ∨ ((sp == es) = true ∧ (num == em) = false) ∨ ((sp == es) = true ∧ (num == em) = true ∧ (size == ee) = false) ∨ ((sp == es) = true ∧ (num == em) = true ∧ (size == ee) = true) := by
    cases (sp == es) <;> cases (num == em) <;> cases (size == ee) <;> simp
   rcases hways with d1 | ⟨d1, d2⟩ | ⟨d1, d2, d3⟩ | ⟨d1, d2, d3⟩
   ·have HP : Hid (atP ⟨ek, es, em, ee⟩ ⟨⟨sp, num, size, el, fl, pr, ect⟩, t⟩ = false) := by show _ = _; simp only [atP, d1]; rfl
    go_wp2_with fail
    go_quiet (fail)
    go_wp2_with fail
    go_roundg (N - (i + 1))
    case rel => exact ⟨i + 1, by go_num, by omega, by omega, by show _ = _; rw [HA.out, HP.out]; rfl, HBD.out nq⟩
    case measure => omega
   ·have HP : Hid (atP ⟨ek, es, em, ee⟩ ⟨⟨sp, num, size, el, fl, pr, ect⟩, t⟩ = false) := by show _ = _; simp only [atP, d1, d2]; rfl
    go_wp2_with fail
    go_quiet (fail)
    go_wp2_with fail
    go_roundg (N - (i + 1))
    case rel => exact ⟨i + 1, by go_num, by omega, by omega, by show _ = _; rw [HA.out, HP.out]; rfl, HBD.out nq⟩
    case measure => omega
   ·have HP : Hid (atP ⟨ek, es, em, ee⟩ ⟨⟨sp, num, size, el, fl, pr, ect⟩, t⟩ = false) := by show _ = _; simp only [atP, d1, d2, d3]; rfl
    go_wp2_with fail
    go_quiet (fail)
    go_wp2_with fail
    go_roundg (N - (i + 1))
    case rel => exact ⟨i + 1, by go_num, by omega, by omega, by show _ = _; rw [HA.out, HP.out]; rfl, HBD.out nq⟩
    case measure => omega
   ·have HP : Hid (atP ⟨ek, es, em, ee⟩ ⟨⟨sp, num, size, el, fl, pr, ect⟩, t⟩ = true) := by show _ = _; simp only [atP, d1, d2, d3]; rfl
    go_wp2_with fail
    go_quiet (fail)
    go_wp2_with fail
    go_ret
    exact ⟨by rw [HA.out, HP.out]; rfl, HB0.out.trans ((HBD.out nq).mono HB0.out.size)⟩
  ·obtain rfl : i = N := by omega
   have hin : ¬ (i : Int) < (i : Int) := by omega
   have HA : Hid (idxF (atP ⟨ek, es, em, ee⟩) l 0 = -1) := by show _ = _; rw [hany, List.drop_of_length_le (by rw [HN.out]; exact Nat.le_refl _)]; rfl
   clear hany
   go_wp2_with fail
   go_ret
   exact ⟨by rw [HA.out]; rfl, HB0.out.trans (HB.out.mono HB0.out.size)⟩
end Go.Proofs.Ytidfngcclbhoaaa

namespace Go.Proofs.Ytidfngcclbhoaaa
open List renaming getElem?_toArray → ZG, getElem?_cons_zero → ZH, getElem?_cons_succ → ZJ
open Go.Value renaming int → ZI
open Go.IntKind renaming i64 → ZQ
set_option linter.unusedSimpArgs false
set_option linter.unusedVariables false
open Go.RowKit Go.Shelf
theorem any_drop {α : Type} {P : α → Bool} {l : List α} {i : Nat} {x : α} (h : l[i]? = some x) : (l.drop i).any P = (P x || (l.drop (i + 1)).any P) := by
 have hi : i < l.length := (List.getElem?_eq_some_iff.1 h).1
 rw [List.drop_eq_getElem_cons hi]
 rw [List.getElem?_eq_getElem hi] at h
 rw [Option.some.inj h]
 rfl
set_option maxRecDepth 100000 in
set_option maxHeartbeats 4000000 in
theorem rhas_any (ra : Option Addr) (rn rc : Nat) (delay e0 e1 e2 : Int) (marked : Bool) (rs : List RGJ) (n : Int) (B : Nat) (w : World) (hR : LieAt rgL 2 w B ra rs) (hB : B ≤ w.heap.size) (hrn : rs.length = rn) (hrl : rn ≤ 2000) :
  Calls Try.prog 90 #[.agg #[ZI ZQ delay, .slice ra rn rc, .bool marked, ZI ZQ e0, ZI ZQ e1, ZI ZQ e2], ZI ZQ n] w fun e w' => e = .returned (.bool (rs.any (inR n))) ∧ Below w.heap.size w w' := by
 have hb0 : Below w.heap.size w (w.alloc (.cells #[ZI ZQ delay, .slice ra rn rc, .bool marked, ZI ZQ e0, ZI ZQ e1, ZI ZQ e2] 32)) := (Below.refl _ _).alloc (Nat.le_refl _) _
 have hX := Blk.new w 32 #[ZI ZQ delay, .slice ra rn rc, .bool marked, ZI ZQ e0, ZI ZQ e1, ZI ZQ e2]
 have hR1 := hR.later (hb0.mono hB)
 obtain ⟨W1, hW1⟩ : ∃ x, w.alloc (.cells #[ZI ZQ delay, .slice ra rn rc, .bool marked, ZI ZQ e0, ZI ZQ e1, ZI ZQ e2] 32) = x := ⟨_, rfl⟩
 obtain ⟨X, hXq⟩ : ∃ x, w.heap.size = x := ⟨_, rfl⟩
 have hb00 := hb0
 rw [hW1] at hb0 hX hR1
 rw [hXq] at hX
 have HB0 := hide hb0
 have HR := hide hR1
 have HN := hide hrn
 have x1 := hX.cell 1
 simp only [ZG, ZH, ZJ] at x1
 clear hb0 hb00 hX hR hR1 hrn
 go_enter Try.func90, Try.ntmps90
 go_upto_region 1 with (fail)
 try rw [hW1]
 try rw [hXq]
 clear hW1 hXq
 go_wp2_with fail
 go_loopg [5] rn (fun kx s5 wr => W1 = wr ∧ ∃ i : Nat, s5 = ZI ZQ i ∧ i ≤ rn ∧ rn - i ≤ kx ∧ Hid (rs.any (inR n) = (rs.drop i).any (inR n)))
 case atStart => exact ⟨rfl, 0, rfl, by omega, by omega, rfl⟩
 case round =>
  obtain ⟨rfl, i, rfl, hi, hkx, hany⟩ := hrel
  by_cases hlt : i < rn
  ·have hir : i < rs.length := by rw [HN.out]; exact hlt
   obtain ⟨x, hx⟩ : ∃ x, rs[i]? = some x := ⟨_, List.getElem?_eq_getElem hir⟩
   obtain ⟨g, o, rfl, hg, hz⟩ := HR.out.at hx
   have z0 := hz 0 _ (by omega) rfl
   have z1 := hz 1 _ (by omega) rfl
   simp only [Nat.add_zero] at z0
   have HA : Hid (rs.any (inR n) = (inR n x || (rs.drop (i + 1)).any (inR n))) := by show _ = _; rw [hany, any_drop hx]
   have hin : (i : Int) < (rn : Int) := by omega
   clear hany hx hir hz
   by_cases h1 : x.lo ≤ n
   ·by_cases h2 : n ≤ x.hi
    ·have HP : Hid (inR n x = true) := by show _ = _; simp [inR, h1, h2]
     go_wp2_with fail
     go_ret
     exact ⟨by rw [HA.out, HP.out]; rfl, HB0.out⟩
    ·have HP : Hid (inR n x = false) := by show _ = _; simp [inR]; omega
     go_wp2_with fail
     go_roundg (rn - (i + 1))
     case rel => exact ⟨rfl, i + 1, by go_num, by omega, by omega, by show _ = _; rw [HA.out, HP.out]; rfl⟩
     case measure => omega
   ·have HP : Hid (inR n x = false) := by show _ = _; simp [inR]; omega
    go_wp2_with fail
    go_roundg (rn - (i + 1))
    case rel => exact ⟨rfl, i + 1, by go_num, by omega, by omega, by show _ = _; rw [HA.out, HP.out]; rfl⟩
    case measure => omega
  ·obtain rfl : i = rn := by omega
   have hin : ¬ (i : Int) < (i : Int) := by omega
   have HA : Hid (rs.any (inR n) = false) := by show _ = _; rw [hany, List.drop_of_length_le (by rw [HN.out]; exact Nat.le_refl _)]; rfl
   clear hany
   go_wp2_with fail
   go_ret
   exact ⟨by rw [HA.out]; rfl, HB0.out⟩
end Go.Proofs.Ytidfngcclbhoaaa

namespace Go.Proofs.Ytidfngcclbhoaaa
open List renaming getElem?_toArray → ZG, getElem?_cons_zero → ZH, getElem?_cons_succ → ZJ
open Go.Value renaming int → ZI
open Go.IntKind renaming i64 → ZQ
set_option linter.unusedSimpArgs false
set_option linter.unusedVariables false
open Go.RowKit Go.Shelf
set_option maxRecDepth 100000 in
set_option maxHeartbeats 4000000 in
theorem rgone_one (b base : Nat) (k : KN) (vL vA vR vP : Value) (p : PKT) (w : World) (hK : KrAt w b base k vL vA vR vP) (hp : k.flying = [p]) :
  Calls Try.prog 79 #[.pointer (some ⟨b, 0, none⟩), ZI ZQ 0, ZI ZQ (-1)] w fun e w' => e = .returned (.tuple #[]) ∧ KrAt w' b base (goneK k 0) (.slice none 0 0) (.slice none 0 0) vR vP ∧ FarR base w w' := by
 obtain ⟨A, c, rfl⟩ := own_sl hK.l
 have q16 := hK.blk.cell 16
 have q17 := hK.blk.cell 17
 have f16 := hK.blk.frozen 16
 have f17 := hK.blk.frozen 17
 simp only [krC, hp, List.length_singleton, ZG, ZH, ZJ] at q16 q17
 have hb := (hK.blk.set 16 (.slice none 0 0)).set 17 (.slice none 0 0)
 have hfin : KrAt ((w.setCell ⟨b, 16, none⟩ (.slice none 0 0)).setCell ⟨b, 17, none⟩ (.slice none 0 0)) b base (goneK k 0) (.slice none 0 0) (.slice none 0 0) vR vP := by
  have hfe : (goneK k 0).flying = [] := by unfold goneK; rw [hp]; rfl
  refine ⟨hb.eq rfl, ?_, ?_, ?_, ?_, hK.ge⟩
  ·rw [hfe]
   exact ⟨rfl, .inl ⟨rfl, rfl⟩⟩
  ·rw [hfe]
   exact ⟨rfl, .inl ⟨rfl, rfl⟩⟩
  ·exact own_far (own_far hK.r (own_ne hK.r hK.blk (by decide)) _) (own_ne (own_far hK.r (own_ne hK.r hK.blk (by decide)) _) (hK.blk.set 16 (.slice none 0 0)) (by decide)) _
  ·exact own_far (own_far hK.p (own_ne hK.p hK.blk (by decide)) _) (own_ne (own_far hK.p (own_ne hK.p hK.blk (by decide)) _) (hK.blk.set 16 (.slice none 0 0)) (by decide)) _
 have hfar : FarR base w ((w.setCell ⟨b, 16, none⟩ (.slice none 0 0)).setCell ⟨b, 17, none⟩ (.slice none 0 0)) := (FarR.refl.set hK.blk hK.ge _ _).set (hK.blk.set 16 _) hK.ge _ _
 have HF := hide (And.intro hfin hfar)
 clear hfin hfar hb hK hp
 go_enter Try.func79, Try.ntmps79
 go_wp2_with fail
 go_loopg [6, 7, 8] 2 (fun kx s6 s7 s8 wr => w = wr ∧ s6 = .slice none 0 0 ∧ s7 = .slice none 0 0 ∧ ∃ i : Nat, s8 = ZI ZQ i ∧ i ≤ 1 ∧ 1 - i ≤ kx)
 case atStart => exact ⟨rfl, rfl, rfl, 0, rfl, by omega, by omega⟩
 case round =>
  obtain ⟨rfl, rfl, rfl, i, rfl, hi, hkx⟩ := hrel
  rcases (by omega : i = 0 ∨ i = 1) with rfl | rfl
  ·go_wp2_with fail
   go_roundg 0
   case rel => exact ⟨rfl, rfl, rfl, 1, rfl, by omega, by omega⟩
   case measure => omega
  ·go_wp2_with fail
   go_end0
   exact ⟨rfl, HF.out.1, HF.out.2⟩
end Go.Proofs.Ytidfngcclbhoaaa

namespace Go.Proofs.Ytidfngcclbhoaaa
open List renaming getElem?_toArray → ZG, getElem?_cons_zero → ZH, getElem?_cons_succ → ZJ
open Go.Value renaming int → ZI
open Go.IntKind renaming i64 → ZQ
set_option linter.unusedSimpArgs false
set_option linter.unusedVariables false
open Go.RowKit Go.Shelf
theorem rrow_size : (Try.prog.info? 93).map (·.size) = some 20 := by kernel_rfl
/-- What a function of the document leaves that answers a rule. -/
def RefPost (b base : Nat) (w : World) (res : Except Int KN) (e : Ending) (w' : World) : Prop :=
 match res with
 | .ok k' => e = .returned (ZI ZQ 0) ∧ ∃ vL vA vR vP, KrAt w' b base k' vL vA vR vP ∧ FarR base w w'
 | .error n => e = .returned (ZI ZQ n) ∧ FarR base w w'
theorem RefPost.ok {b base : Nat} {w w' : World} {res : Except Int KN} {k' : KN} {vL vA vR vP : Value} (h : res = .ok k') (hk : KrAt w' b base k' vL vA vR vP) (hb : FarR base w w') : RefPost b base w res (.returned (ZI ZQ 0)) w' := by
 subst h
 exact ⟨rfl, _, _, _, _, hk, hb⟩
theorem RefPost.err {b base : Nat} {w w' : World} {res : Except Int KN} {n : Int} (h : res = .error n) (hb : FarR base w w') : RefPost b base w res (.returned (ZI ZQ n)) w' := by
 subst h
 exact ⟨rfl, hb⟩
/-- What lies while the document looks at an event. -/
structure RvSt (w W : World) (b base : Nat) (k : KN) (vL vA vR vP : Value) (R X : Nat) (r : RW) (e : EVJ) (rs : List RGJ) : Prop where
 kn : KrAt W b base k vL vA vR vP
 row : Blk W R 93 (rwC r)
 ev : Blk W X 46 #[ZI ZQ e.kind, ZI ZQ e.sp, ZI ZQ e.num, ZI ZQ e.n]
 rg : LieAt rgL 2 W base r.ra rs
 bl : FarR base w W
theorem RvSt.ge {w W : World} {b base : Nat} {k : KN} {vL vA vR vP : Value} {R X : Nat} {r : RW} {e : EVJ} {rs : List RGJ} (h : RvSt w W b base k vL vA vR vP R X r e rs) : base ≤ W.heap.size := Nat.le_of_lt (Nat.lt_of_le_of_lt h.kn.ge h.kn.blk.lt)
theorem RvSt.later {w W W' : World} {b base : Nat} {k : KN} {vL vA vR vP : Value} {R X : Nat} {r : RW} {e : EVJ} {rs : List RGJ} (h : RvSt w W b base k vL vA vR vP R X r e rs) (hb : Below W.heap.size W W') : RvSt w W' b base k vL vA vR vP R X r e rs :=
 ⟨h.kn.later hb, (hb.block _ h.row.lt).trans h.row, (hb.block _ h.ev.lt).trans h.ev, h.rg.later (hb.mono h.ge), h.bl.later hb h.ge⟩
set_option maxRecDepth 100000 in
set_option maxHeartbeats 8000000 in
theorem rev_none (b base : Nat) (k : KN) (vL vA vR vP : Value) (r : RW) (rs : List RGJ) (e : EVJ) (w : World) (hK : KrAt w b base k vL vA vR vP) (hR : LieAt rgL 2 w base r.ra rs) (hrn : rs.length = r.rn) (hrl : r.rn ≤ 2000) (hfn : k.flying.length ≤ 2000) (hk : ¬ e.kind = 1 ∧ ¬ e.kind = 2 ∧ ¬ e.kind = 3 ∧ ¬ e.kind = 4 ∧ ¬ e.kind = 5) :
  Calls Try.prog 80 #[.pointer (some ⟨b, 0, none⟩), .agg (rwC r), .agg #[ZI ZQ e.kind, ZI ZQ e.sp, ZI ZQ e.num, ZI ZQ e.n]] w (RefPost b base w (eventP k r rs e)) := by
 obtain ⟨kind, rt, rsp, rsize, ⟨osp, onum, osize, oel, ofl, opr, oect⟩, delay, ra, rn, rc, marked, e0, e1, e2, ea, en, ec, err, smooth⟩ := r
 obtain ⟨ek, es, em, ee⟩ := e
 simp only at hR hrn hrl hk ⊢
 
 obtain ⟨res, hres⟩ : ∃ x, eventP k ⟨kind, rt, rsp, rsize, ⟨osp, onum, osize, oel, ofl, opr, oect⟩, delay, ra, rn, rc, marked, e0, e1, e2, ea, en, ec, err, smooth⟩ rs ⟨ek, es, em, ee⟩ = x := ⟨_, rfl⟩
 rw [hres]
 have HRES := hide hres
 clear hres
 have hge := hK.ge
 have hbb : base ≤ w.heap.size := Nat.le_of_lt (Nat.lt_of_le_of_lt hK.ge hK.blk.lt)
 unfold rwC
 have ha : Below w.heap.size w ((w.alloc (.cells #[ZI ZQ kind, ZI ZQ rt, ZI ZQ rsp, ZI ZQ rsize, ZI ZQ osp, ZI ZQ onum, ZI ZQ osize, .bool oel, .bool ofl, .bool opr, .bool oect, ZI ZQ delay, .slice ra rn rc, .bool marked, ZI ZQ e0, ZI ZQ e1, ZI ZQ e2, .slice ea en ec, ZI ZQ err, ZI ZQ smooth] 93)).alloc (.cells #[ZI ZQ ek, ZI ZQ es, ZI ZQ em, ZI ZQ ee] 46)) := ((Below.refl _ _).alloc (Nat.le_refl _) _).alloc (by simp) _
 have hs0 : RvSt w ((w.alloc (.cells #[ZI ZQ kind, ZI ZQ rt, ZI ZQ rsp, ZI ZQ rsize, ZI ZQ osp, ZI ZQ onum, ZI ZQ osize, .bool oel, .bool ofl, .bool opr, .bool oect, ZI ZQ delay, .slice ra rn rc, .bool marked, ZI ZQ e0, ZI ZQ e1, ZI ZQ e2, .slice ea en ec, ZI ZQ err, ZI ZQ smooth] 93)).alloc (.cells #[ZI ZQ ek, ZI ZQ es, ZI ZQ em, ZI ZQ ee] 46)) b base k vL vA vR vP w.heap.size (w.heap.size + 1) ⟨kind, rt, rsp, rsize, ⟨osp, onum, osize, oel, ofl, opr, oect⟩, delay, ra, rn, rc, marked, e0, e1, e2, ea, en, ec, err, smooth⟩ ⟨ek, es, em, ee⟩ rs := by
  refine ⟨hK.later ha, (Blk.new _ _ _).alloc _, ?_, hR.later (ha.mono hbb), FarR.of_below ha hbb⟩
  have := Blk.new (w.alloc (.cells #[ZI ZQ kind, ZI ZQ rt, ZI ZQ rsp, ZI ZQ rsize, ZI ZQ osp, ZI ZQ onum, ZI ZQ osize, .bool oel, .bool ofl, .bool opr, .bool oect, ZI ZQ delay, .slice ra rn rc, .bool marked, ZI ZQ e0, ZI ZQ e1, ZI ZQ e2, .slice ea en ec, ZI ZQ err, ZI ZQ smooth] 93)) 46 #[ZI ZQ ek, ZI ZQ es, ZI ZQ em, ZI ZQ ee]
  simpa using this
 obtain ⟨W1, hW1⟩ : ∃ x, (w.alloc (.cells #[ZI ZQ kind, ZI ZQ rt, ZI ZQ rsp, ZI ZQ rsize, ZI ZQ osp, ZI ZQ onum, ZI ZQ osize, .bool oel, .bool ofl, .bool opr, .bool oect, ZI ZQ delay, .slice ra rn rc, .bool marked, ZI ZQ e0, ZI ZQ e1, ZI ZQ e2, .slice ea en ec, ZI ZQ err, ZI ZQ smooth] 93)).alloc (.cells #[ZI ZQ ek, ZI ZQ es, ZI ZQ em, ZI ZQ ee] 46) = x := ⟨_, rfl⟩
 obtain ⟨R, hRr⟩ : ∃ x, w.heap.size = x := ⟨_, rfl⟩
 have HPL := hide (fun W h => rplace_any b base k vL vA vR vP ⟨ek, es, em, ee⟩ W h hfn)
 obtain ⟨n, hn⟩ : ∃ x, idxF (atP ⟨ek, es, em, ee⟩) k.flying 0 = x := ⟨_, rfl⟩
 rw [hn] at HPL
 have HN := hide hn
 go_enter Try.func80, Try.ntmps80
 go_upto_region 1 with (fail)
 rw [hW1, hRr] at hs0
 try rw [hW1]
 try rw [hRr]
 have HS1 := hide hs0
 have x0 := hs0.ev.cell 0
 have x1 := hs0.ev.cell 1
 have x2 := hs0.ev.cell 2
 have x3 := hs0.ev.cell 3
 simp only [ZG, ZH, ZJ] at x0 x1 x2 x3
 clear hs0 hW1 ha hR hRr hn
 go_wp2_with fail
 with_reducible refine (HPL.out _ HS1.out.kn).mono ?_
 rintro y1 W2 ⟨rfl, hb1⟩
 have hs2 := HS1.out.later hb1
 have HS2 := hide hs2
 clear HS1 x0 x1 x2 x3 hb1 HPL
 have x0 := hs2.ev.cell 0
 have x1 := hs2.ev.cell 1
 have x2 := hs2.ev.cell 2
 have x3 := hs2.ev.cell 3
 have r0 := hs2.row.cell 0
 have r2 := hs2.row.cell 2
 simp only [rwC, ZG, ZH, ZJ] at x0 x1 x2 x3 r0 r2
 clear hs2
 have e1 : (ek == 1) = false := by simpa using hk.1
 have e2 : (ek == 2) = false := by simpa using hk.2.1
 have e3 : (ek == 3) = false := by simpa using hk.2.2.1
 have e4 : (ek == 4) = false := by simpa using hk.2.2.2.1
 have e5 : (ek == 5) = false := by simpa using hk.2.2.2.2
 have HKK := hide hk
 clear hk HN
 cases d2 : (kind == 2) <;> cases d4 : (kind == 4)
 all_goals
  go_wp2_with fail
  go_ret
  exact RefPost.err (by rw [← HRES.out]; unfold eventP; rw [if_neg HKK.out.1, if_neg HKK.out.2.1, if_neg HKK.out.2.2.1, if_neg HKK.out.2.2.2.2, if_neg HKK.out.2.2.2.1]) HS2.out.bl
set_option maxRecDepth 100000 in
set_option maxHeartbeats 8000000 in
theorem rev_collapse (b base : Nat) (k : KN) (vL vA vR vP : Value) (r : RW) (rs : List RGJ) (e : EVJ) (w : World) (hK : KrAt w b base k vL vA vR vP) (hR : LieAt rgL 2 w base r.ra rs) (hrn : rs.length = r.rn) (hrl : r.rn ≤ 2000) (hfn : k.flying.length ≤ 2000) (hk : e.kind = 5) (htm : timedB r = true) :
  Calls Try.prog 80 #[.pointer (some ⟨b, 0, none⟩), .agg (rwC r), .agg #[ZI ZQ e.kind, ZI ZQ e.sp, ZI ZQ e.num, ZI ZQ e.n]] w (RefPost b base w (eventP k r rs e)) := by
 obtain ⟨kind, rt, rsp, rsize, ⟨osp, onum, osize, oel, ofl, opr, oect⟩, delay, ra, rn, rc, marked, e0, e1, e2, ea, en, ec, err, smooth⟩ := r
 obtain ⟨ek, es, em, ee⟩ := e
 simp only at hR hrn hrl hk htm ⊢
 subst hk
 obtain ⟨res, hres⟩ : ∃ x, eventP k ⟨kind, rt, rsp, rsize, ⟨osp, onum, osize, oel, ofl, opr, oect⟩, delay, ra, rn, rc, marked, e0, e1, e2, ea, en, ec, err, smooth⟩ rs ⟨5, es, em, ee⟩ = x := ⟨_, rfl⟩
 rw [hres]
 have HRES := hide hres
 clear hres
 have hge := hK.ge
 have hbb : base ≤ w.heap.size := Nat.le_of_lt (Nat.lt_of_le_of_lt hK.ge hK.blk.lt)
 unfold rwC
 have ha : Below w.heap.size w ((w.alloc (.cells #[ZI ZQ kind, ZI ZQ rt, ZI ZQ rsp, ZI ZQ rsize, ZI ZQ osp, ZI ZQ onum, ZI ZQ osize, .bool oel, .bool ofl, .bool opr, .bool oect, ZI ZQ delay, .slice ra rn rc, .bool marked, ZI ZQ e0, ZI ZQ e1, ZI ZQ e2, .slice ea en ec, ZI ZQ err, ZI ZQ smooth] 93)).alloc (.cells #[ZI ZQ 5, ZI ZQ es, ZI ZQ em, ZI ZQ ee] 46)) := ((Below.refl _ _).alloc (Nat.le_refl _) _).alloc (by simp) _
 have hs0 : RvSt w ((w.alloc (.cells #[ZI ZQ kind, ZI ZQ rt, ZI ZQ rsp, ZI ZQ rsize, ZI ZQ osp, ZI ZQ onum, ZI ZQ osize, .bool oel, .bool ofl, .bool opr, .bool oect, ZI ZQ delay, .slice ra rn rc, .bool marked, ZI ZQ e0, ZI ZQ e1, ZI ZQ e2, .slice ea en ec, ZI ZQ err, ZI ZQ smooth] 93)).alloc (.cells #[ZI ZQ 5, ZI ZQ es, ZI ZQ em, ZI ZQ ee] 46)) b base k vL vA vR vP w.heap.size (w.heap.size + 1) ⟨kind, rt, rsp, rsize, ⟨osp, onum, osize, oel, ofl, opr, oect⟩, delay, ra, rn, rc, marked, e0, e1, e2, ea, en, ec, err, smooth⟩ ⟨5, es, em, ee⟩ rs := by
  refine ⟨hK.later ha, (Blk.new _ _ _).alloc _, ?_, hR.later (ha.mono hbb), FarR.of_below ha hbb⟩
  have := Blk.new (w.alloc (.cells #[ZI ZQ kind, ZI ZQ rt, ZI ZQ rsp, ZI ZQ rsize, ZI ZQ osp, ZI ZQ onum, ZI ZQ osize, .bool oel, .bool ofl, .bool opr, .bool oect, ZI ZQ delay, .slice ra rn rc, .bool marked, ZI ZQ e0, ZI ZQ e1, ZI ZQ e2, .slice ea en ec, ZI ZQ err, ZI ZQ smooth] 93)) 46 #[ZI ZQ 5, ZI ZQ es, ZI ZQ em, ZI ZQ ee]
  simpa using this
 obtain ⟨W1, hW1⟩ : ∃ x, (w.alloc (.cells #[ZI ZQ kind, ZI ZQ rt, ZI ZQ rsp, ZI ZQ rsize, ZI ZQ osp, ZI ZQ onum, ZI ZQ osize, .bool oel, .bool ofl, .bool opr, .bool oect, ZI ZQ delay, .slice ra rn rc, .bool marked, ZI ZQ e0, ZI ZQ e1, ZI ZQ e2, .slice ea en ec, ZI ZQ err, ZI ZQ smooth] 93)).alloc (.cells #[ZI ZQ 5, ZI ZQ es, ZI ZQ em, ZI ZQ ee] 46) = x := ⟨_, rfl⟩
 obtain ⟨R, hRr⟩ : ∃ x, w.heap.size = x := ⟨_, rfl⟩
 have HPL := hide (fun W h => rplace_any b base k vL vA vR vP ⟨5, es, em, ee⟩ W h hfn)
 obtain ⟨n, hn⟩ : ∃ x, idxF (atP ⟨5, es, em, ee⟩) k.flying 0 = x := ⟨_, rfl⟩
 rw [hn] at HPL
 have HN := hide hn
 go_enter Try.func80, Try.ntmps80
 go_upto_region 1 with (fail)
 rw [hW1, hRr] at hs0
 try rw [hW1]
 try rw [hRr]
 have HS1 := hide hs0
 have x0 := hs0.ev.cell 0
 have x1 := hs0.ev.cell 1
 have x2 := hs0.ev.cell 2
 have x3 := hs0.ev.cell 3
 simp only [ZG, ZH, ZJ] at x0 x1 x2 x3
 clear hs0 hW1 ha hR hRr hn
 go_wp2_with fail
 with_reducible refine (HPL.out _ HS1.out.kn).mono ?_
 rintro y1 W2 ⟨rfl, hb1⟩
 have hs2 := HS1.out.later hb1
 have HS2 := hide hs2
 clear HS1 x0 x1 x2 x3 hb1 HPL
 have x0 := hs2.ev.cell 0
 have x1 := hs2.ev.cell 1
 have x2 := hs2.ev.cell 2
 have x3 := hs2.ev.cell 3
 have r0 := hs2.row.cell 0
 have r2 := hs2.row.cell 2
 simp only [rwC, ZG, ZH, ZJ] at x0 x1 x2 x3 r0 r2
 clear hs2
 have HTM := hide htm
 have hways : ((kind == 2) = true) ∨ ((kind == 2) = false ∧ (kind == 4) = true) := by
  unfold timedB at htm
  simp only at htm
  cases h2 : (kind == 2)
  ·rw [h2] at htm
   exact .inr ⟨rfl, by simpa using htm⟩
  ·exact .inl rfl
 clear HN htm
 rcases hways with d2 | ⟨d2, d4⟩
 all_goals
  go_wp2_with fail
  go_ret
  exact RefPost.ok (by rw [← HRES.out]; unfold eventP; rw [if_neg (by show ¬ (5 : Int) = 1; omega), if_neg (by show ¬ (5 : Int) = 2; omega), if_neg (by show ¬ (5 : Int) = 3; omega), if_pos rfl, if_pos HTM.out]) HS2.out.kn HS2.out.bl
end Go.Proofs.Ytidfngcclbhoaaa
