/-
 3 texts in one (PersistPlain, PkRows, LossCheck).
-/
import Derived.Test.YtgicljeedegncaaGreatTqSrPlain
import Derived.Test.YtgicljeedegncaaGreatTqSentRef2
namespace Go.Proofs.YtgicljeedegncaaGreat
open Go.Value renaming int → ZI
open Go.IntKind renaming i64 → ZQ
set_option linter.unusedSimpArgs false
set_option linter.unusedVariables false

/-- A packet. -/
structure PK where
 n : Int
 t : Int
 s : Int
 e : Bool
 f : Bool
 c : Bool
 deriving DecidableEq
def pkC (p : PK) : Array Value := #[ZI ZQ p.n, ZI ZQ p.t, ZI ZQ p.s, .bool p.e, .bool p.f, .bool p.c]
def pkV (p : PK) : Value := .agg (pkC p)
/-- Its numbers are ints. -/
def PK.small (p : PK) : Prop := (-9223372036854775808 ≤ p.n ∧ p.n ≤ 9223372036854775807) ∧ (-9223372036854775808 ≤ p.t ∧ p.t ≤ 9223372036854775807) ∧ (-9223372036854775808 ≤ p.s ∧ p.s ≤ 9223372036854775807)
/-- May it be, behind a number? -/
def okPk (last : Int) (p : PK) : Bool := decide (last < p.n) && decide (p.n ≤ 9007199254740991) && (decide (0 ≤ p.t) && decide (p.t ≤ 9007199254740991)) && decide (1 ≤ p.s) && decide (p.s ≤ 65535)
def okPks : Int → List PK → Bool
 | _, [] => true
 | last, p :: ps => okPk last p && okPks p.n ps
theorem okPk_iff {last : Int} {p : PK} : okPk last p = true ↔ last < p.n ∧ p.n ≤ 9007199254740991 ∧ 0 ≤ p.t ∧ p.t ≤ 9007199254740991 ∧ 1 ≤ p.s ∧ p.s ≤ 65535 := by
 unfold okPk
 simp only [Bool.and_eq_true, decide_eq_true_eq]
 constructor
 ·rintro ⟨⟨⟨⟨h1, h2⟩, h3, h4⟩, h5⟩, h6⟩; exact ⟨h1, h2, h3, h4, h5, h6⟩
 ·rintro ⟨h1, h2, h3, h4, h5, h6⟩; exact ⟨⟨⟨⟨h1, h2⟩, h3, h4⟩, h5⟩, h6⟩
theorem okPks_mem : ∀ {ps : List PK} {last : Int}, okPks last ps = true → ∀ p ∈ ps, last < p.n ∧ p.n ≤ 9007199254740991 ∧ 0 ≤ p.t ∧ p.t ≤ 9007199254740991 ∧ 1 ≤ p.s ∧ p.s ≤ 65535
 | [], _, _, p, hp => by simp at hp
 | q :: ps, last, h, p, hp => by
  simp only [okPks, Bool.and_eq_true] at h
  obtain ⟨h1, h2⟩ := h
  have h3 := okPk_iff.1 h1
  rcases List.mem_cons.1 hp with rfl | hp
  ·exact h3
  ·have := okPks_mem h2 p hp
   omega
/-- Does it count? -/
def counts (first : Int) (p : PK) : Bool := p.e && decide (first < p.t)
/-- Was nothing between them acknowledged? -/
def freeR (rs : List Rg) (a b : PK) : Bool := !(rs.reverse.any fun x => decide ((if a.n + 1 < x.lo then x.lo else a.n + 1) ≤ (if b.n - 1 < x.hi then b.n - 1 else x.hi)))
def pairOk (rs : List Rg) (first : Int) (a b : PK) : Bool := counts first a && counts first b && decide (a.t ≤ b.t) && freeR rs a b
def pairsL (rs : List Rg) (first : Int) : List PK → List (PK × PK)
 | [] => []
 | a :: ps => ((ps.filter fun b => pairOk rs first a b).map fun b => (a, b)) ++ pairsL rs first ps
/-- What is kept of a pair. -/
structure Per where
 d : Int
 lo : Int
 hi : Int
 some : Bool
 deriving DecidableEq
def Per.none : Per := ⟨0, 0, 0, false⟩
def keepP (st : Per) (x : PK × PK) : Per := if !st.some || decide (st.d < x.2.t - x.1.t) then ⟨x.2.t - x.1.t, x.1.n, x.2.n, true⟩ else st
/-- The period. -/
def periodR (rs : List Rg) (first : Int) (ps : List PK) : Per := (pairsL rs first ps).foldl keepP Per.none
theorem pairsL_mem {rs : List Rg} {first : Int} : ∀ {ps : List PK} {x : PK × PK}, x ∈ pairsL rs first ps → x.1 ∈ ps ∧ x.2 ∈ ps ∧ pairOk rs first x.1 x.2 = true
 | [], x, h => by simp [pairsL] at h
 | a :: ps, x, h => by
  rcases List.mem_append.1 h with h | h
  ·obtain ⟨b, hb, rfl⟩ := List.mem_map.1 h
   obtain ⟨h1, h2⟩ := List.mem_filter.1 hb
   exact ⟨by simp, by simp [h1], h2⟩
  ·obtain ⟨h1, h2, h3⟩ := pairsL_mem h
   exact ⟨by simp [h1], by simp [h2], h3⟩
end Go.Proofs.YtgicljeedegncaaGreat

namespace Go.Proofs.YtgicljeedegncaaGreat
open Go.Value renaming int → ZI
open Go.IntKind renaming i64 → ZQ
set_option linter.unusedSimpArgs false
set_option linter.unusedVariables false
open Go.RowKit

/-- A slice of packets reads as ps. -/
def PksAt (w : World) (a : Option Addr) (ps : List PK) : Prop := (∀ p ∈ ps, p.small) ∧ ∀ (i : Nat) (p : PK), ps[i]? = some p → ∃ k o, a = some ⟨k, o, none⟩ ∧ k < w.heap.size ∧ ∀ (j : Nat) (v : Value), (pkC p)[j]? = some v → w.cell? ⟨k, o + (i * 6 + j), none⟩ = some v
theorem PksAt.below {w w' : World} {B : Nat} {a : Option Addr} {ps : List PK} (h : PksAt w a ps) (hb : Below B w w') (hB : w.heap.size ≤ B) : PksAt w' a ps := ⟨h.1, fun i p hi => by
 obtain ⟨k, o, e, hk, hc⟩ := h.2 i p hi
 exact ⟨k, o, e, Nat.lt_of_lt_of_le hk hb.size, fun j v hj => (hb.cell (p := ⟨k, _, none⟩) (Nat.lt_of_lt_of_le hk hB)).trans (hc j v hj)⟩⟩
theorem PksAt.only {w w' : World} {S : List Nat} {a : Option Addr} {ps : List PK} (h : PksAt w a ps) (ho : Only S w w') (hS : ∀ k o, a = some ⟨k, o, none⟩ → k ∉ S) : PksAt w' a ps := ⟨h.1, fun i p hi => by
 obtain ⟨k, o, e, hk, hc⟩ := h.2 i p hi
 exact ⟨k, o, e, Nat.lt_of_lt_of_le hk ho.size, fun j v hj => (ho.cell (p := ⟨k, _, none⟩) hk (hS k o e)).trans (hc j v hj)⟩⟩
theorem PksAt.cells {w : World} {a : Option Addr} {ps : List PK} (h : PksAt w a ps) {i : Nat} {p : PK} (hi : ps[i]? = some p) : ∃ k o, a = some ⟨k, o, none⟩ ∧ k < w.heap.size ∧
  w.cell? ⟨k, o + i * 6, none⟩ = some (ZI ZQ p.n) ∧ w.cell? ⟨k, o + i * 6 + 1, none⟩ = some (ZI ZQ p.t) ∧ w.cell? ⟨k, o + i * 6 + 2, none⟩ = some (ZI ZQ p.s) ∧
  w.cell? ⟨k, o + i * 6 + 3, none⟩ = some (.bool p.e) ∧ w.cell? ⟨k, o + i * 6 + 4, none⟩ = some (.bool p.f) ∧ w.cell? ⟨k, o + i * 6 + 5, none⟩ = some (.bool p.c) := by
 obtain ⟨k, o, e, hk, hc⟩ := h.2 i p hi
 exact ⟨k, o, e, hk, hc 0 _ rfl, hc 1 _ rfl, hc 2 _ rfl, hc 3 _ rfl, hc 4 _ rfl, hc 5 _ rfl⟩

theorem istime_any (n : Int) (w : World) : Calls Tryz.prog 94 #[ZI ZQ n] w fun e w' => e = .returned (.bool (decide (0 ≤ n) && decide (n ≤ 9007199254740991))) ∧ w = w' := by
 by_cases h1 : 0 ≤ n
 ·by_cases h2 : n ≤ 9007199254740991
  ·go_enter Tryz.func94, Tryz.ntmps94
   go_wp2
   go_ret
   simp [h1, h2]
  ·go_enter Tryz.func94, Tryz.ntmps94
   go_wp2
   go_ret
   simp [h1, h2]
 ·go_enter Tryz.func94, Tryz.ntmps94
  go_wp2
  go_ret
  have h1 : ¬ 0 ≤ n := by omega
  simp [h1]

set_option maxHeartbeats 1000000 in
/-- Check's closure: is a packet wrong? The number of the last one lies in a box. -/
theorem wrong_any (p : PK) (last : Int) (Bl : Nat) (w : World) (hB : Blk w Bl 3 #[ZI ZQ last]) :
  Calls Tryz.prog 138 #[pkV p, .pointer (some ⟨Bl, 0, none⟩)] w fun e w' => e = .returned (.bool (!okPk last p)) ∧ Only [Bl] w w' ∧ Blk w' Bl 3 #[ZI ZQ p.n] := by
 have c0 := hB.cell 0
 have f0 := hB.frozen 0
 have hl := hB.lt
 have hO : Only [Bl] w ((w.setCell ⟨Bl, 0, none⟩ (ZI ZQ p.n)).alloc (.cells (pkC p) 40)) := ((only_of_below (Below.refl _ _)).setCell (.inl (by simp)) _).alloc _
 have hX : Blk ((w.setCell ⟨Bl, 0, none⟩ (ZI ZQ p.n)).alloc (.cells (pkC p) 40)) Bl 3 #[ZI ZQ p.n] := (hB.set 0 _).alloc _
 have HO := hide hO
 have HX := hide hX
 obtain ⟨T, hT⟩ : ∃ T, (decide (0 ≤ p.t) && decide (p.t ≤ 9007199254740991)) = T := ⟨_, rfl⟩
 have hv : (decide (p.n ≤ last) || decide (9007199254740991 < p.n) || !T || decide (p.s < 1) || decide (65535 < p.s)) = !okPk last p := by
  unfold okPk
  rw [hT]
  have e1 : decide (p.n ≤ last) = !decide (last < p.n) := by rw [← decide_not]; congr 1; simp only [Int.not_lt]
  have e2 : decide (9007199254740991 < p.n) = !decide (p.n ≤ 9007199254740991) := by rw [← decide_not]; congr 1; simp only [Int.not_le]
  have e3 : decide (p.s < 1) = !decide (1 ≤ p.s) := by rw [← decide_not]; congr 1; simp only [Int.not_le]
  have e4 : decide (65535 < p.s) = !decide (p.s ≤ 65535) := by rw [← decide_not]; congr 1; simp only [Int.not_le]
  rw [e1, e2, e3, e4]
  simp only [Bool.not_and]
 rw [← hv]
 have HIT := hide (fun W => istime_any p.t W)
 rw [hT] at HIT
 clear hO hX hv hT
 obtain ⟨n, t, s, e, f, c⟩ := p
 unfold pkV pkC at *
 dsimp only at *
 clear hB
 cases T with
 | true =>
  go_enter Tryz.func138, Tryz.ntmps138
  go_wp2_with (go_at_call 94; refine (HIT.out _).mono ?_; rintro e1 w1 ⟨rfl, rfl⟩)
  all_goals
   go_ret
   refine ⟨?_, HO.out, HX.out⟩
   first | rfl | simp
 | false =>
  go_enter Tryz.func138, Tryz.ntmps138
  go_wp2_with (go_at_call 94; refine (HIT.out _).mono ?_; rintro e1 w1 ⟨rfl, rfl⟩)
  all_goals
   go_ret
   refine ⟨?_, HO.out, HX.out⟩
   first | rfl | simp
end Go.Proofs.YtgicljeedegncaaGreat

namespace Go.Proofs.YtgicljeedegncaaGreat
open Go.Value renaming int → ZI
open Go.IntKind renaming i64 → ZQ
set_option linter.unusedSimpArgs false
set_option linter.unusedVariables false
open Go.RowKit

def IdxPost (ok : Bool) (Bl : Nat) (w : World) (e : Ending) (w' : World) : Prop := ∃ R : Int, e = .returned (ZI ZQ R) ∧ (ok = true → R = -1) ∧ (ok = false → 0 ≤ R) ∧ Only [Bl] w w'
set_option maxRecDepth 100000 in
set_option maxHeartbeats 2000000 in
theorem index_wrong (a : Option Addr) (len cap : Nat) (ps : List PK) (Bl : Nat) (w : World) (hlen : ps.length = len) (hl2 : len ≤ 256) (hP : PksAt w a ps) (hB : Blk w Bl 3 #[ZI ZQ (-1)]) (hne : ∀ k o, a = some ⟨k, o, none⟩ → k ≠ Bl) :
  Calls Tryz.prog 171 #[.slice a len cap, .func (.func 138) #[] #[.pointer (some ⟨Bl, 0, none⟩)]] w (IdxPost (okPks (-1) ps) Bl w) := by
 have HP := hide hP
 have HNE := hide hne
 have HL := hide hlen
 clear hP hne hlen
 go_enter Tryz.func171, Tryz.ntmps171
 go_wp2_with fail
 go_loopg [8] len (fun kx s8 wr => ∃ (i : Nat) (last : Int), s8 = ZI ZQ i ∧ i ≤ len ∧ len - i ≤ kx ∧ Hid (okPks (-1) ps = okPks last (ps.drop i)) ∧ Only [Bl] w wr ∧ Blk wr Bl 3 #[ZI ZQ last])
 case atStart => exact ⟨0, -1, rfl, by omega, by omega, rfl, only_of_below (Below.refl _ _), hB⟩
 case round =>
  clear hB
  obtain ⟨i, last, rfl, hi, hkx, hok, hO, hB⟩ := hrel
  by_cases hlt : i < len
  ·have hir : i < ps.length := by rw [HL.out]; exact hlt
   obtain ⟨p, hp⟩ : ∃ p, ps[i]? = some p := ⟨_, List.getElem?_eq_getElem hir⟩
   have hd : ps.drop i = p :: ps.drop (i + 1) := by
    rw [List.drop_eq_getElem_cons hir]
    congr 1
    rw [List.getElem?_eq_getElem hir] at hp
    exact Option.some.inj hp
   have hP2 := HP.out.only hO (fun k o e => by simp; exact HNE.out k o e)
   obtain ⟨k, o, rfl, hk, z0, z1, z2, z3, z4, z5⟩ := hP2.cells hp
   have hw := wrong_any p last Bl wr hB
   have HOK : Hid (okPks (-1) ps = (okPk last p && okPks p.n (ps.drop (i + 1)))) := by rw [hok, hd]; rfl
   have HW := hide hw
   unfold pkV pkC at HW
   clear hw hp hd hir hP2 hok hB
   have hin : (i : Int) < (len : Int) := by omega
   cases hq : okPk last p with
   | true =>
    have HQ := hide hq
    rw [hq] at HW HOK
    clear hq
    go_wp2_with fail
    refine HW.out.mono ?_
    rintro e1 w1 ⟨rfl, hO1, hB1⟩
    rw [show (!true) = false from rfl]
    go_wp2_with fail
    go_roundg (len - (i + 1))
    case rel => exact ⟨i + 1, p.n, by go_num, by omega, by omega, HOK.out, hO.trans hO1 (by simp), hB1⟩
    case measure => omega
   | false =>
    have HQ := hide hq
    rw [hq] at HW HOK
    clear hq
    go_wp2_with fail
    refine HW.out.mono ?_
    rintro e1 w1 ⟨rfl, hO1, hB1⟩
    rw [show (!false) = true from rfl]
    go_wp2_with fail
    go_ret
    exact ⟨i, rfl, fun h => (by rw [HOK.out] at h; cases h), fun _ => by omega, hO.trans hO1 (by simp)⟩
  ·obtain rfl : i = len := by omega
   have hin : ¬ (i : Int) < (i : Int) := by omega
   have HOK : Hid (okPks (-1) ps = true) := by rw [hok, List.drop_of_length_le (by rw [HL.out]; exact Nat.le_refl _)]; rfl
   clear hok hB
   go_wp2_with fail
   go_ret
   exact ⟨-1, rfl, fun _ => rfl, fun h => (by rw [HOK.out] at h; cases h), hO⟩

set_option maxHeartbeats 1000000 in
theorem contains_wrong (a : Option Addr) (len cap : Nat) (ps : List PK) (Bl : Nat) (w : World) (hlen : ps.length = len) (hl2 : len ≤ 256) (hP : PksAt w a ps) (hB : Blk w Bl 3 #[ZI ZQ (-1)]) (hne : ∀ k o, a = some ⟨k, o, none⟩ → k ≠ Bl) :
  Calls Tryz.prog 139 #[.slice a len cap, .func (.func 138) #[] #[.pointer (some ⟨Bl, 0, none⟩)]] w fun e w' => e = .returned (.bool (!okPks (-1) ps)) ∧ Only [Bl] w w' := by
 have HI := hide (index_wrong a len cap ps Bl w hlen hl2 hP hB hne)
 clear hlen hP hB hne
 cases hq : okPks (-1) ps with
 | true =>
  have HQ := hide hq
  rw [hq] at HI
  clear hq
  go_enter Tryz.func139, Tryz.ntmps139
  go_wp2_with fail
  refine HI.out.mono ?_
  rintro e1 w1 ⟨R, rfl, h1, _, hO⟩
  obtain rfl := h1 rfl
  clear h1
  go_wp2_with fail
  go_ret
  exact ⟨rfl, hO⟩
 | false =>
  have HQ := hide hq
  rw [hq] at HI
  clear hq
  go_enter Tryz.func139, Tryz.ntmps139
  go_wp2_with fail
  refine HI.out.mono ?_
  rintro e1 w1 ⟨R, rfl, _, h1, hO⟩
  have h0 := h1 rfl
  clear h1
  go_wp2_with fail
  go_ret
  exact ⟨rfl, hO⟩

/-- What Check answers. -/
def checkL (ps : List PK) : Int := if ps.length ≤ 256 ∧ okPks (-1) ps = true then 0 else 2
set_option maxHeartbeats 1000000 in
theorem losscheck_any (a : Option Addr) (len cap : Nat) (ps : List PK) (w : World) (hlen : ps.length = len) (hP : PksAt w a ps) (ha : ∀ k o, a = some ⟨k, o, none⟩ → k < w.heap.size) :
  Calls Tryz.prog 93 #[.slice a len cap] w fun e w' => e = .returned (ZI ZQ (checkL ps)) ∧ Below w.heap.size w w' := by
 subst hlen
 unfold checkL
 by_cases h256 : ps.length ≤ 256
 ·have HC := hide (contains_wrong a ps.length cap ps w.heap.size (w.alloc (.cells #[ZI ZQ (-1)] 3)) rfl h256 (hP.below ((Below.refl _ _).alloc (Nat.le_refl _) _) (Nat.le_refl _)) (Blk.new _ _ _) (fun k o e => by have := ha k o e; omega))
  have h2 : ¬ (256 : Int) < (ps.length : Int) := by omega
  cases hq : okPks (-1) ps with
  | true =>
   have HQ := hide hq
   rw [hq] at HC
   rw [if_pos ⟨h256, rfl⟩]
   clear hq hP ha
   go_enter Tryz.func93, Tryz.ntmps93
   go_wp2_with fail
   refine HC.out.mono ?_
   rintro e1 w1 ⟨rfl, hO⟩
   rw [show (!true) = false from rfl]
   go_wp2_with fail
   go_ret
   exact ⟨rfl, ((Below.refl _ _).alloc (Nat.le_refl _) _).trans (hO.below (by simp) (by simp))⟩
  | false =>
   have HQ := hide hq
   rw [hq] at HC
   rw [if_neg (by simp)]
   clear hq hP ha
   go_enter Tryz.func93, Tryz.ntmps93
   go_wp2_with fail
   refine HC.out.mono ?_
   rintro e1 w1 ⟨rfl, hO⟩
   rw [show (!false) = true from rfl]
   go_wp2_with fail
   go_ret
   exact ⟨rfl, ((Below.refl _ _).alloc (Nat.le_refl _) _).trans (hO.below (by simp) (by simp))⟩
 ·rw [if_neg (fun h => h256 h.1)]
  have h2 : (256 : Int) < (ps.length : Int) := by omega
  clear hP ha
  go_enter Tryz.func93, Tryz.ntmps93
  go_wp2_with fail
  go_ret
  exact ⟨rfl, (Below.refl _ _).alloc (Nat.le_refl _) _⟩

set_option maxHeartbeats 1000000 in
theorem clamp_any (n : Int) (w : World) : Calls Tryz.prog 187 #[ZI ZQ n, ZI ZQ 0, ZI ZQ 9007199254740991] w fun e w' => e = .returned (ZI ZQ (if n < 0 then 0 else if 9007199254740991 < n then 9007199254740991 else n)) ∧ w = w' := by
 by_cases h0 : n < 0
 ·have h1 : ¬ 9007199254740991 < n := by omega
  rw [if_pos h0]
  go_enter Tryz.func187, Tryz.ntmps187
  go_wp2
  go_ret
  simp
 ·rw [if_neg h0]
  by_cases h1 : 9007199254740991 < n
  ·rw [if_pos h1]
   go_enter Tryz.func187, Tryz.ntmps187
   go_wp2
   go_ret
   simp
  ·rw [if_neg h1]
   go_enter Tryz.func187, Tryz.ntmps187
   go_wp2
   all_goals
    go_ret
    simp
    try omega
theorem satnum_any (n : Int) (w : World) : Calls Tryz.prog 179 #[ZI ZQ n] w fun e w' => e = .returned (ZI ZQ (if n < 0 then 0 else if 9007199254740991 < n then 9007199254740991 else n)) ∧ w = w' := by
 obtain ⟨m, hm⟩ : ∃ m, (if n < 0 then 0 else if 9007199254740991 < n then 9007199254740991 else n) = m := ⟨_, rfl⟩
 have HC := hide (clamp_any n w)
 rw [hm] at HC ⊢
 clear hm
 go_enter Tryz.func179, Tryz.ntmps179
 go_wp2_with fail
 refine HC.out.mono ?_
 rintro e1 w1 ⟨rfl, rfl⟩
 go_wp2_with fail
 go_ret
 exact ⟨rfl, rfl⟩
theorem satis_any (n : Int) (w : World) : Calls Tryz.prog 165 #[ZI ZQ n] w fun e w' => e = .returned (.bool (decide (0 ≤ n) && decide (n ≤ 9007199254740991))) ∧ w = w' := by
 have HC := hide (satnum_any n w)
 obtain ⟨m, hm⟩ : ∃ m, (if n < 0 then 0 else if 9007199254740991 < n then 9007199254740991 else n) = m := ⟨_, rfl⟩
 have hv : (n == m) = (decide (0 ≤ n) && decide (n ≤ 9007199254740991)) := by
  rw [← hm]
  by_cases h0 : n < 0
  ·rw [if_pos h0, show decide (0 ≤ n) = false from decide_eq_false (by omega), Bool.false_and, beq_eq_false_iff_ne]; omega
  ·rw [if_neg h0, show decide (0 ≤ n) = true from decide_eq_true (by omega), Bool.true_and]
   by_cases h1 : 9007199254740991 < n
   ·rw [if_pos h1, show decide (n ≤ 9007199254740991) = false from decide_eq_false (by omega), beq_eq_false_iff_ne]; omega
   ·rw [if_neg h1, show decide (n ≤ 9007199254740991) = true from decide_eq_true (by omega), beq_self_eq_true]
 have HV := hide hv
 rw [hm] at HC
 rw [← hv]
 clear hm hv
 go_enter Tryz.func165, Tryz.ntmps165
 go_wp2_with fail
 refine HC.out.mono ?_
 rintro e1 w1 ⟨rfl, rfl⟩
 go_wp2_with fail
 go_ret
 exact ⟨rfl, rfl⟩
end Go.Proofs.YtgicljeedegncaaGreat
