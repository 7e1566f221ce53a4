/-
 2 texts in one (LossCheck, PersistFree).
-/
import Derived.Test.YtgicljeedegncaaGreatSqPkRows
import Derived.Test.YtgicljeedegncaaGreatSqSpanIter2
namespace Go.Proofs.YtgicljeedegncaaGreat
open Go.Value renaming int → ZI
open Go.IntKind renaming i64 → ZQ
set_option linter.unusedSimpArgs false
set_option linter.unusedVariables false
open Go.RowKit

def IdxPost (ok : Bool) (Bl : Nat) (w : World) (e : Ending) (w' : World) : Prop := ∃ R : Int, e = .returned (ZI ZQ R) ∧ (ok = true → R = -1) ∧ (ok = false → 0 ≤ R) ∧ Only [Bl] w w'
set_option maxRecDepth 100000 in
set_option maxHeartbeats 2000000 in
theorem index_wrong (a : Option Addr) (len cap : Nat) (ps : List PK) (Bl : Nat) (w : World) (hlen : ps.length = len) (hl2 : len ≤ 256) (hP : PksAt w a ps) (hB : Blk w Bl 3 #[ZI ZQ (-1)]) (hne : ∀ k o, a = some ⟨k, o, none⟩ → k ≠ Bl) :
  Calls Tryz.prog 171 #[.slice a len cap, .func (.func 138) #[] #[.pointer (some ⟨Bl, 0, none⟩)]] w (IdxPost (okPks (-1) ps) Bl w) := by
 have HP := hide hP
 have HNE := hide hne
 have HL := hide hlen
 clear hP hne hlen
 go_enter Tryz.func171, Tryz.ntmps171
 go_wp2_with fail
 go_loopg [8] len (fun kx s8 wr => ∃ (i : Nat) (last : Int), s8 = ZI ZQ i ∧ i ≤ len ∧ len - i ≤ kx ∧ Hid (okPks (-1) ps = okPks last (ps.drop i)) ∧ Only [Bl] w wr ∧ Blk wr Bl 3 #[ZI ZQ last])
 case atStart => exact ⟨0, -1, rfl, by omega, by omega, rfl, only_of_below (Below.refl _ _), hB⟩
 case round =>
  clear hB
  obtain ⟨i, last, rfl, hi, hkx, hok, hO, hB⟩ := hrel
  by_cases hlt : i < len
  ·have hir : i < ps.length := by rw [HL.out]; exact hlt
   obtain ⟨p, hp⟩ : ∃ p, ps[i]? = some p := ⟨_, List.getElem?_eq_getElem hir⟩
   have hd : ps.drop i = p :: ps.drop (i + 1) := by
    rw [List.drop_eq_getElem_cons hir]
    congr 1
    rw [List.getElem?_eq_getElem hir] at hp
    exact Option.some.inj hp
   have hP2 := HP.out.only hO (fun k o e => by simp; exact HNE.out k o e)
   obtain ⟨k, o, rfl, hk, z0, z1, z2, z3, z4, z5⟩ := hP2.cells hp
   have hw := wrong_any p last Bl wr hB
   have HOK : Hid (okPks (-1) ps = (okPk last p && okPks p.n (ps.drop (i + 1)))) := by rw [hok, hd]; rfl
   have HW := hide hw
   unfold pkV pkC at HW
   clear hw hp hd hir hP2 hok hB
   have hin : (i : Int) < (len : Int) := by omega
   cases hq : okPk last p with
   | true =>
    have HQ := hide hq
    rw [hq] at HW HOK
    clear hq
    go_wp2_with fail
    refine HW.out.mono ?_
    rintro e1 w1 ⟨rfl, hO1, hB1⟩
    rw [show (!true) = false from rfl]
    go_wp2_with fail
    go_roundg (len - (i + 1))
    case rel => exact ⟨i + 1, p.n, by go_num, by omega, by omega, HOK.out, hO.trans hO1 (by simp), hB1⟩
    case measure => omega
   | false =>
    have HQ := hide hq
    rw [hq] at HW HOK
    clear hq
    go_wp2_with fail
    refine HW.out.mono ?_
    rintro e1 w1 ⟨rfl, hO1, hB1⟩
    rw [show (!false) = true from rfl]
    go_wp2_with fail
    go_ret
    exact ⟨i, rfl, fun h => (by rw [HOK.out] at h; cases h), fun _ => by omega, hO.trans hO1 (by simp)⟩
  ·obtain rfl : i = len := by omega
   have hin : ¬ (i : Int) < (i : Int) := by omega
   have HOK : Hid (okPks (-1) ps = true) := by rw [hok, List.drop_of_length_le (by rw [HL.out]; exact Nat.le_refl _)]; rfl
   clear hok hB
   go_wp2_with fail
   go_ret
   exact ⟨-1, rfl, fun _ => rfl, fun h => (by rw [HOK.out] at h; cases h), hO⟩

set_option maxHeartbeats 1000000 in
theorem contains_wrong (a : Option Addr) (len cap : Nat) (ps : List PK) (Bl : Nat) (w : World) (hlen : ps.length = len) (hl2 : len ≤ 256) (hP : PksAt w a ps) (hB : Blk w Bl 3 #[ZI ZQ (-1)]) (hne : ∀ k o, a = some ⟨k, o, none⟩ → k ≠ Bl) :
  Calls Tryz.prog 139 #[.slice a len cap, .func (.func 138) #[] #[.pointer (some ⟨Bl, 0, none⟩)]] w fun e w' => e = .returned (.bool (!okPks (-1) ps)) ∧ Only [Bl] w w' := by
 have HI := hide (index_wrong a len cap ps Bl w hlen hl2 hP hB hne)
 clear hlen hP hB hne
 cases hq : okPks (-1) ps with
 | true =>
  have HQ := hide hq
  rw [hq] at HI
  clear hq
  go_enter Tryz.func139, Tryz.ntmps139
  go_wp2_with fail
  refine HI.out.mono ?_
  rintro e1 w1 ⟨R, rfl, h1, _, hO⟩
  obtain rfl := h1 rfl
  clear h1
  go_wp2_with fail
  go_ret
  exact ⟨rfl, hO⟩
 | false =>
  have HQ := hide hq
  rw [hq] at HI
  clear hq
  go_enter Tryz.func139, Tryz.ntmps139
  go_wp2_with fail
  refine HI.out.mono ?_
  rintro e1 w1 ⟨R, rfl, _, h1, hO⟩
  have h0 := h1 rfl
  clear h1
  go_wp2_with fail
  go_ret
  exact ⟨rfl, hO⟩

/-- What Check answers. -/
def checkL (ps : List PK) : Int := if ps.length ≤ 256 ∧ okPks (-1) ps = true then 0 else 2
set_option maxHeartbeats 1000000 in
theorem losscheck_any (a : Option Addr) (len cap : Nat) (ps : List PK) (w : World) (hlen : ps.length = len) (hP : PksAt w a ps) (ha : ∀ k o, a = some ⟨k, o, none⟩ → k < w.heap.size) :
  Calls Tryz.prog 93 #[.slice a len cap] w fun e w' => e = .returned (ZI ZQ (checkL ps)) ∧ Below w.heap.size w w' := by
 subst hlen
 unfold checkL
 by_cases h256 : ps.length ≤ 256
 ·have HC := hide (contains_wrong a ps.length cap ps w.heap.size (w.alloc (.cells #[ZI ZQ (-1)] 3)) rfl h256 (hP.below ((Below.refl _ _).alloc (Nat.le_refl _) _) (Nat.le_refl _)) (Blk.new _ _ _) (fun k o e => by have := ha k o e; omega))
  have h2 : ¬ (256 : Int) < (ps.length : Int) := by omega
  cases hq : okPks (-1) ps with
  | true =>
   have HQ := hide hq
   rw [hq] at HC
   rw [if_pos ⟨h256, rfl⟩]
   clear hq hP ha
   go_enter Tryz.func93, Tryz.ntmps93
   go_wp2_with fail
   refine HC.out.mono ?_
   rintro e1 w1 ⟨rfl, hO⟩
   rw [show (!true) = false from rfl]
   go_wp2_with fail
   go_ret
   exact ⟨rfl, ((Below.refl _ _).alloc (Nat.le_refl _) _).trans (hO.below (by simp) (by simp))⟩
  | false =>
   have HQ := hide hq
   rw [hq] at HC
   rw [if_neg (by simp)]
   clear hq hP ha
   go_enter Tryz.func93, Tryz.ntmps93
   go_wp2_with fail
   refine HC.out.mono ?_
   rintro e1 w1 ⟨rfl, hO⟩
   rw [show (!false) = true from rfl]
   go_wp2_with fail
   go_ret
   exact ⟨rfl, ((Below.refl _ _).alloc (Nat.le_refl _) _).trans (hO.below (by simp) (by simp))⟩
 ·rw [if_neg (fun h => h256 h.1)]
  have h2 : (256 : Int) < (ps.length : Int) := by omega
  clear hP ha
  go_enter Tryz.func93, Tryz.ntmps93
  go_wp2_with fail
  go_ret
  exact ⟨rfl, (Below.refl _ _).alloc (Nat.le_refl _) _⟩

set_option maxHeartbeats 1000000 in
theorem clamp_any (n : Int) (w : World) : Calls Tryz.prog 187 #[ZI ZQ n, ZI ZQ 0, ZI ZQ 9007199254740991] w fun e w' => e = .returned (ZI ZQ (if n < 0 then 0 else if 9007199254740991 < n then 9007199254740991 else n)) ∧ w = w' := by
 by_cases h0 : n < 0
 ·have h1 : ¬ 9007199254740991 < n := by omega
  rw [if_pos h0]
  go_enter Tryz.func187, Tryz.ntmps187
  go_wp2
  go_ret
  simp
 ·rw [if_neg h0]
  by_cases h1 : 9007199254740991 < n
  ·rw [if_pos h1]
   go_enter Tryz.func187, Tryz.ntmps187
   go_wp2
   go_ret
   simp
  ·rw [if_neg h1]
   go_enter Tryz.func187, Tryz.ntmps187
   go_wp2
   all_goals
    go_ret
    simp
    try omega
theorem satnum_any (n : Int) (w : World) : Calls Tryz.prog 179 #[ZI ZQ n] w fun e w' => e = .returned (ZI ZQ (if n < 0 then 0 else if 9007199254740991 < n then 9007199254740991 else n)) ∧ w = w' := by
 obtain ⟨m, hm⟩ : ∃ m, (if n < 0 then 0 else if 9007199254740991 < n then 9007199254740991 else n) = m := ⟨_, rfl⟩
 have HC := hide (clamp_any n w)
 rw [hm] at HC ⊢
 clear hm
 go_enter Tryz.func179, Tryz.ntmps179
 go_wp2_with fail
 refine HC.out.mono ?_
 rintro e1 w1 ⟨rfl, rfl⟩
 go_wp2_with fail
 go_ret
 exact ⟨rfl, rfl⟩
theorem satis_any (n : Int) (w : World) : Calls Tryz.prog 165 #[ZI ZQ n] w fun e w' => e = .returned (.bool (decide (0 ≤ n) && decide (n ≤ 9007199254740991))) ∧ w = w' := by
 have HC := hide (satnum_any n w)
 obtain ⟨m, hm⟩ : ∃ m, (if n < 0 then 0 else if 9007199254740991 < n then 9007199254740991 else n) = m := ⟨_, rfl⟩
 have hv : (n == m) = (decide (0 ≤ n) && decide (n ≤ 9007199254740991)) := by
  rw [← hm]
  by_cases h0 : n < 0
  ·rw [if_pos h0, show decide (0 ≤ n) = false from decide_eq_false (by omega), Bool.false_and, beq_eq_false_iff_ne]; omega
  ·rw [if_neg h0, show decide (0 ≤ n) = true from decide_eq_true (by omega), Bool.true_and]
   by_cases h1 : 9007199254740991 < n
   ·rw [if_pos h1, show decide (n ≤ 9007199254740991) = false from decide_eq_false (by omega), beq_eq_false_iff_ne]; omega
   ·rw [if_neg h1, show decide (n ≤ 9007199254740991) = true from decide_eq_true (by omega), beq_self_eq_true]
 have HV := hide hv
 rw [hm] at HC
 rw [← hv]
 clear hm hv
 go_enter Tryz.func165, Tryz.ntmps165
 go_wp2_with fail
 refine HC.out.mono ?_
 rintro e1 w1 ⟨rfl, rfl⟩
 go_wp2_with fail
 go_ret
 exact ⟨rfl, rfl⟩
end Go.Proofs.YtgicljeedegncaaGreat

namespace Go.Proofs.YtgicljeedegncaaGreat
open Go.Value renaming int → ZI
open Go.IntKind renaming i64 → ZQ
set_option linter.unusedSimpArgs false
set_option linter.unusedVariables false
open Go.RowKit

set_option maxHeartbeats 1000000 in
theorem counts_any (p : PK) (first : Int) (Bf : Nat) (w : World) (hc : w.cell? ⟨Bf, 0, none⟩ = some (ZI ZQ first)) (hB : Bf < w.heap.size) :
  Calls Tryz.prog 180 #[pkV p, .pointer (some ⟨Bf, 0, none⟩)] w fun e w' => e = .returned (.bool (counts first p)) ∧ Below w.heap.size w w' := by
 have hb : Below w.heap.size w (w.alloc (.cells (pkC p) 40)) := (Below.refl _ _).alloc (Nat.le_refl _) _
 obtain ⟨n, t, s, e, f, c⟩ := p
 unfold pkV pkC at *
 unfold counts
 dsimp only at *
 cases e with
 | true =>
  go_enter Tryz.func180, Tryz.ntmps180
  go_wp2
  go_ret
  exact ⟨by simp, hb⟩
 | false =>
  go_enter Tryz.func180, Tryz.ntmps180
  go_wp2
  go_ret
  exact ⟨by simp, hb⟩

/-- Does a range hold a number between two? -/
def hitR (an bn : Int) (x : Rg) : Bool := decide ((if an + 1 < x.lo then x.lo else an + 1) ≤ (if bn - 1 < x.hi then bn - 1 else x.hi))
theorem freeR_hit (rs : List Rg) (a b : PK) : freeR rs a b = !(rs.reverse.any (hitR a.n b.n)) := rfl
set_option maxHeartbeats 1000000 in
theorem hit_any (x : Rg) (an bn : Int) (Ba Bb : Nat) (w : World) (ha : w.cell? ⟨Ba, 0, none⟩ = some (ZI ZQ an)) (hb : w.cell? ⟨Bb, 0, none⟩ = some (ZI ZQ bn)) (hla : Ba < w.heap.size) (hlb : Bb < w.heap.size)
  (a0 : -1 ≤ an) (a1 : an ≤ 9007199254740991) (b0 : -1 ≤ bn) (b1 : bn ≤ 9007199254740991) :
  Calls Tryz.prog 182 #[.agg #[ZI ZQ x.lo, ZI ZQ x.hi], .pointer (some ⟨Ba, 0, none⟩), .pointer (some ⟨Bb, 0, none⟩)] w fun e w' => e = .returned (.bool (hitR an bn x)) ∧ Below w.heap.size w w' := by
 have hbw : Below w.heap.size w (w.alloc (.cells #[ZI ZQ x.lo, ZI ZQ x.hi] 93)) := (Below.refl _ _).alloc (Nat.le_refl _) _
 unfold hitR
 obtain ⟨lo, hi⟩ := x
 dsimp only at *
 obtain ⟨m, hm⟩ : ∃ m, (if an + 1 < lo then lo else an + 1) = m := ⟨_, rfl⟩
 obtain ⟨q, hq⟩ : ∃ q, (if bn - 1 < hi then bn - 1 else hi) = q := ⟨_, rfl⟩
 have hm2 : (if lo < an + 1 then an + 1 else lo) = m := by rw [← hm]; split <;> split <;> omega
 rw [hm, hq]
 clear hm
 go_enter Tryz.func182, Tryz.ntmps182
 go_wp2
 go_ret
 exact ⟨rfl, hbw⟩

def HitPost (b : Bool) (w : World) (e : Ending) (w' : World) : Prop := ∃ R : Int, e = .returned (ZI ZQ R) ∧ (b = true → 0 ≤ R) ∧ (b = false → R = -1) ∧ Below w.heap.size w w'
set_option maxHeartbeats 2000000 in
theorem index_hit (v : Option Addr) (n cap : Nat) (xs : List Rg) (an bn : Int) (Ba Bb : Nat) (w : World) (hn : xs.length = n) (hl : n ≤ 1000) (hv : RgAt w v xs) (ha : w.cell? ⟨Ba, 0, none⟩ = some (ZI ZQ an)) (hb : w.cell? ⟨Bb, 0, none⟩ = some (ZI ZQ bn)) (hla : Ba < w.heap.size) (hlb : Bb < w.heap.size)
  (a0 : -1 ≤ an) (a1 : an ≤ 9007199254740991) (b0 : -1 ≤ bn) (b1 : bn ≤ 9007199254740991) :
  Calls Tryz.prog 150 #[.slice v n cap, .func (.func 182) #[] #[.pointer (some ⟨Ba, 0, none⟩), .pointer (some ⟨Bb, 0, none⟩)]] w (HitPost (xs.any (hitR an bn)) w) := by
 have HV := hide hv
 have HL := hide hn
 have HA := hide ha
 have HB := hide hb
 clear hv hn ha hb
 go_enter Tryz.func150, Tryz.ntmps150
 go_wp2_with fail
 go_loopg [8] n (fun kx s8 wr => ∃ i : Nat, s8 = ZI ZQ i ∧ i ≤ n ∧ n - i ≤ kx ∧ Hid (xs.any (hitR an bn) = (xs.drop i).any (hitR an bn)) ∧ Below w.heap.size w wr)
 case atStart => exact ⟨0, rfl, by omega, by omega, rfl, Below.refl _ _⟩
 case round =>
  obtain ⟨i, rfl, hi, hkx, hok, hbw⟩ := hrel
  by_cases hlt : i < n
  ·have hir : i < xs.length := by rw [HL.out]; exact hlt
   obtain ⟨x, hx⟩ : ∃ x, xs[i]? = some x := ⟨_, List.getElem?_eq_getElem hir⟩
   have hd : xs.drop i = x :: xs.drop (i + 1) := by
    rw [List.drop_eq_getElem_cons hir]
    congr 1
    rw [List.getElem?_eq_getElem hir] at hx
    exact Option.some.inj hx
   obtain ⟨k, rfl, hk, z0, z1⟩ := (HV.out.below hbw) i x hx
   have HW := hide (hit_any x an bn Ba Bb wr ((hbw.cell (p := ⟨Ba, _, none⟩) hla).trans HA.out) ((hbw.cell (p := ⟨Bb, _, none⟩) hlb).trans HB.out) (Nat.lt_of_lt_of_le hla hbw.size) (Nat.lt_of_lt_of_le hlb hbw.size) a0 a1 b0 b1)
   have HOK : Hid (xs.any (hitR an bn) = (hitR an bn x || (xs.drop (i + 1)).any (hitR an bn))) := by rw [hok, hd]; rfl
   obtain ⟨lo, hi'⟩ := x
   dsimp only at z0 z1 HW
   have hin : (i : Int) < (n : Int) := by omega
   clear hok hx hd hir
   cases hq : hitR an bn ⟨lo, hi'⟩ with
   | true =>
    have HQ := hide hq
    rw [hq] at HW HOK
    clear hq
    go_wp2_with fail
    refine HW.out.mono ?_
    rintro e1 w1 ⟨rfl, hb1⟩
    go_wp2_with fail
    go_ret
    exact ⟨i, rfl, fun _ => by omega, fun h => (by rw [HOK.out] at h; cases h), bw_below' hbw hb1⟩
   | false =>
    have HQ := hide hq
    rw [hq] at HW HOK
    clear hq
    go_wp2_with fail
    refine HW.out.mono ?_
    rintro e1 w1 ⟨rfl, hb1⟩
    go_wp2_with fail
    go_roundg (n - (i + 1))
    case rel => exact ⟨i + 1, by go_num, by omega, by omega, HOK.out, bw_below' hbw hb1⟩
    case measure => omega
  ·obtain rfl : i = n := by omega
   have hin : ¬ (i : Int) < (i : Int) := by omega
   have HOK : Hid (xs.any (hitR an bn) = false) := by rw [hok, List.drop_of_length_le (by rw [HL.out]; exact Nat.le_refl _)]; rfl
   clear hok
   go_wp2_with fail
   go_ret
   exact ⟨-1, rfl, fun h => (by rw [HOK.out] at h; cases h), fun _ => rfl, hbw⟩
set_option maxHeartbeats 1000000 in
theorem contains_hit (v : Option Addr) (n cap : Nat) (xs : List Rg) (an bn : Int) (Ba Bb : Nat) (w : World) (hn : xs.length = n) (hl : n ≤ 1000) (hv : RgAt w v xs) (ha : w.cell? ⟨Ba, 0, none⟩ = some (ZI ZQ an)) (hb : w.cell? ⟨Bb, 0, none⟩ = some (ZI ZQ bn)) (hla : Ba < w.heap.size) (hlb : Bb < w.heap.size)
  (a0 : -1 ≤ an) (a1 : an ≤ 9007199254740991) (b0 : -1 ≤ bn) (b1 : bn ≤ 9007199254740991) :
  Calls Tryz.prog 102 #[.slice v n cap, .func (.func 182) #[] #[.pointer (some ⟨Ba, 0, none⟩), .pointer (some ⟨Bb, 0, none⟩)]] w fun e w' => e = .returned (.bool (xs.any (hitR an bn))) ∧ Below w.heap.size w w' := by
 have HI := hide (index_hit v n cap xs an bn Ba Bb w hn hl hv ha hb hla hlb a0 a1 b0 b1)
 clear hn hv ha hb
 cases hq : xs.any (hitR an bn) with
 | true =>
  have HQ := hide hq
  rw [hq] at HI
  clear hq
  go_enter Tryz.func102, Tryz.ntmps102
  go_wp2_with fail
  refine HI.out.mono ?_
  rintro e1 w1 ⟨R, rfl, h1, _, hO⟩
  have h0 := h1 rfl
  clear h1
  go_wp2_with fail
  go_ret
  exact ⟨rfl, hO⟩
 | false =>
  have HQ := hide hq
  rw [hq] at HI
  clear hq
  go_enter Tryz.func102, Tryz.ntmps102
  go_wp2_with fail
  refine HI.out.mono ?_
  rintro e1 w1 ⟨R, rfl, _, h1, hO⟩
  obtain rfl := h1 rfl
  clear h1
  go_wp2_with fail
  go_ret
  exact ⟨rfl, hO⟩

/-- What was acknowledged: no set, or one. -/
def AckAt (w : World) (v : Value) (rs : List Rg) : Prop := (v = .pointer none ∧ rs = []) ∨ ∃ b g room, v = .pointer (some ⟨b, 0, none⟩) ∧ IsSet w b g room rs
theorem AckAt.below {w w' : World} {v : Value} {rs : List Rg} (h : AckAt w v rs) (hb : Below w.heap.size w w') : AckAt w' v rs := by
 rcases h with h | ⟨b, g, room, h1, h2⟩
 ·exact .inl h
 ·exact .inr ⟨b, g, room, h1, h2.below hb⟩
theorem AckAt.good {w : World} {v : Value} {rs : List Rg} (h : AckAt w v rs) : GoodR rs ∧ rs.length ≤ 256 := by
 rcases h with ⟨_, rfl⟩ | ⟨b, g, room, _, h2⟩
 ·exact ⟨GoodR.nil, by simp⟩
 ·have := h2.len
  exact ⟨h2.good, by omega⟩
theorem snone_yes (w : World) : Calls Tryz.prog 112 #[.pointer none] w fun e w' => e = .returned (.bool true) ∧ w = w' := by
 go_enter Tryz.func112, Tryz.ntmps112
 go_wp2
 go_ret
 exact ⟨rfl, rfl⟩
def AckPost (w : World) (rs : List Rg) (e : Ending) (w' : World) : Prop := ∃ a c, e = .returned (.slice a rs.length c) ∧ RgAt w' a rs.reverse ∧ Below w.heap.size w w'
theorem ack_ranges (v : Value) (rs : List Rg) (w : World) (h : AckAt w v rs) : Calls Tryz.prog 103 #[v] w (AckPost w rs) := by
 rcases h with ⟨rfl, rfl⟩ | ⟨b, g, room, rfl, h2⟩
 ·go_enter Tryz.func103, Tryz.ntmps103
  go_wp2_with fail
  refine (snone_yes _).mono ?_
  rintro e1 w1 ⟨rfl, rfl⟩
  go_wp2_with fail
  go_ret
  exact ⟨none, 0, rfl, fun i r hi => by simp at hi, Below.refl _ _⟩
 ·refine (ranges_any b g room rs w h2).mono ?_
  rintro e w' ⟨v, rfl, hr, _, hb⟩
  obtain ⟨a, c, rfl⟩ := own_slice' hr
  exact ⟨a, c, rfl, own_rgat List.length_reverse hr, hb⟩

set_option maxHeartbeats 1000000 in
theorem free_any (a b : PK) (v : Value) (rs : List Rg) (Bk : Nat) (w : World) (hc : w.cell? ⟨Bk, 0, none⟩ = some v) (hB : Bk < w.heap.size) (hA : AckAt w v rs)
  (a0 : -1 ≤ a.n) (a1 : a.n ≤ 9007199254740991) (b0 : -1 ≤ b.n) (b1 : b.n ≤ 9007199254740991) :
  Calls Tryz.prog 181 #[pkV a, pkV b, .pointer (some ⟨Bk, 0, none⟩)] w fun e w' => e = .returned (.bool (freeR rs a b)) ∧ Below w.heap.size w w' := by
 have hbw : Below w.heap.size w ((w.alloc (.cells (pkC a) 40)).alloc (.cells (pkC b) 40)) := ((Below.refl _ _).alloc (Nat.le_refl _) _).alloc (by simp) _
 have hXa : Blk ((w.alloc (.cells (pkC a) 40)).alloc (.cells (pkC b) 40)) w.heap.size 40 (pkC a) := (Blk.new _ _ _).alloc _
 have hXb : Blk ((w.alloc (.cells (pkC a) 40)).alloc (.cells (pkC b) 40)) (w.heap.size + 1) 40 (pkC b) := by
  have := Blk.new (w.alloc (.cells (pkC a) 40)) 40 (pkC b)
  rw [World.size_alloc] at this
  exact this
 rw [freeR_hit]
 have HR := hide (ack_ranges v rs _ (hA.below hbw))
 have HG := hide hA.good
 have hlen := hA.good.2
 have HXA := hide hXa
 have HXB := hide hXb
 have HBW := hide hbw
 obtain ⟨T, hT⟩ : ∃ T, rs.reverse.any (hitR a.n b.n) = T := ⟨_, rfl⟩
 have HT := hide hT
 rw [hT]
 clear hT hA hXa hXb hbw
 unfold pkV pkC at *
 go_enter Tryz.func181, Tryz.ntmps181
 go_wp2_with fail
 refine HR.out.mono ?_
 rintro e1 w1 ⟨x, c, rfl, hr, hb1⟩
 go_wp2_with fail
 refine (contains_hit x rs.length c rs.reverse a.n b.n w.heap.size (w.heap.size + 1) w1 List.length_reverse (by omega) hr ((hb1.cell (p := ⟨w.heap.size, 0, none⟩) HXA.out.lt).trans (HXA.out.cell 0)) ((hb1.cell (p := ⟨w.heap.size + 1, 0, none⟩) HXB.out.lt).trans (HXB.out.cell 0)) (Nat.lt_of_lt_of_le HXA.out.lt hb1.size) (Nat.lt_of_lt_of_le HXB.out.lt hb1.size) a0 a1 b0 b1).mono ?_
 rintro e2 w2 ⟨rfl, hb2⟩
 rw [HT.out]
 go_wp2_with fail
 go_ret
 exact ⟨rfl, bw_below' (bw_below' HBW.out hb1) hb2⟩
end Go.Proofs.YtgicljeedegncaaGreat
