/-
 3 texts in one (PersistFree, KeepC, FrameGaps).
-/
import Derived.Test.YtgicljeedegncaaGreatTqLossCheck
import Derived.Test.YtgicljeedegncaaGreatTqSpanIter2
import Derived.Test.YtgicljeedegncaaGreatTqSentEq
import Derived.Sort.LoopGhostIn
import Derived.Sort.CutIn
import Derived.BigRegionIn
import Derived.RegionIn
namespace Go.Proofs.YtgicljeedegncaaGreat
open Go.Value renaming int → ZI
open Go.IntKind renaming i64 → ZQ
set_option linter.unusedSimpArgs false
set_option linter.unusedVariables false
open Go.RowKit

set_option maxHeartbeats 1000000 in
theorem counts_any (p : PK) (first : Int) (Bf : Nat) (w : World) (hc : w.cell? ⟨Bf, 0, none⟩ = some (ZI ZQ first)) (hB : Bf < w.heap.size) :
  Calls Tryz.prog 180 #[pkV p, .pointer (some ⟨Bf, 0, none⟩)] w fun e w' => e = .returned (.bool (counts first p)) ∧ Below w.heap.size w w' := by
 have hb : Below w.heap.size w (w.alloc (.cells (pkC p) 40)) := (Below.refl _ _).alloc (Nat.le_refl _) _
 obtain ⟨n, t, s, e, f, c⟩ := p
 unfold pkV pkC at *
 unfold counts
 dsimp only at *
 cases e with
 | true =>
  go_enter Tryz.func180, Tryz.ntmps180
  go_wp2
  go_ret
  exact ⟨by simp, hb⟩
 | false =>
  go_enter Tryz.func180, Tryz.ntmps180
  go_wp2
  go_ret
  exact ⟨by simp, hb⟩

/-- Does a range hold a number between two? -/
def hitR (an bn : Int) (x : Rg) : Bool := decide ((if an + 1 < x.lo then x.lo else an + 1) ≤ (if bn - 1 < x.hi then bn - 1 else x.hi))
theorem freeR_hit (rs : List Rg) (a b : PK) : freeR rs a b = !(rs.reverse.any (hitR a.n b.n)) := rfl
set_option maxHeartbeats 1000000 in
theorem hit_any (x : Rg) (an bn : Int) (Ba Bb : Nat) (w : World) (ha : w.cell? ⟨Ba, 0, none⟩ = some (ZI ZQ an)) (hb : w.cell? ⟨Bb, 0, none⟩ = some (ZI ZQ bn)) (hla : Ba < w.heap.size) (hlb : Bb < w.heap.size)
  (a0 : -1 ≤ an) (a1 : an ≤ 9007199254740991) (b0 : -1 ≤ bn) (b1 : bn ≤ 9007199254740991) :
  Calls Tryz.prog 182 #[.agg #[ZI ZQ x.lo, ZI ZQ x.hi], .pointer (some ⟨Ba, 0, none⟩), .pointer (some ⟨Bb, 0, none⟩)] w fun e w' => e = .returned (.bool (hitR an bn x)) ∧ Below w.heap.size w w' := by
 have hbw : Below w.heap.size w (w.alloc (.cells #[ZI ZQ x.lo, ZI ZQ x.hi] 93)) := (Below.refl _ _).alloc (Nat.le_refl _) _
 unfold hitR
 obtain ⟨lo, hi⟩ := x
 dsimp only at *
 obtain ⟨m, hm⟩ : ∃ m, (if an + 1 < lo then lo else an + 1) = m := ⟨_, rfl⟩
 obtain ⟨q, hq⟩ : ∃ q, (if bn - 1 < hi then bn - 1 else hi) = q := ⟨_, rfl⟩
 have hm2 : (if lo < an + 1 then an + 1 else lo) = m := by rw [← hm]; split <;> split <;> omega
 rw [hm, hq]
 clear hm
 go_enter Tryz.func182, Tryz.ntmps182
 go_wp2
 go_ret
 exact ⟨rfl, hbw⟩

def HitPost (b : Bool) (w : World) (e : Ending) (w' : World) : Prop := ∃ R : Int, e = .returned (ZI ZQ R) ∧ (b = true → 0 ≤ R) ∧ (b = false → R = -1) ∧ Below w.heap.size w w'
set_option maxHeartbeats 2000000 in
theorem index_hit (v : Option Addr) (n cap : Nat) (xs : List Rg) (an bn : Int) (Ba Bb : Nat) (w : World) (hn : xs.length = n) (hl : n ≤ 1000) (hv : RgAt w v xs) (ha : w.cell? ⟨Ba, 0, none⟩ = some (ZI ZQ an)) (hb : w.cell? ⟨Bb, 0, none⟩ = some (ZI ZQ bn)) (hla : Ba < w.heap.size) (hlb : Bb < w.heap.size)
  (a0 : -1 ≤ an) (a1 : an ≤ 9007199254740991) (b0 : -1 ≤ bn) (b1 : bn ≤ 9007199254740991) :
  Calls Tryz.prog 150 #[.slice v n cap, .func (.func 182) #[] #[.pointer (some ⟨Ba, 0, none⟩), .pointer (some ⟨Bb, 0, none⟩)]] w (HitPost (xs.any (hitR an bn)) w) := by
 have HV := hide hv
 have HL := hide hn
 have HA := hide ha
 have HB := hide hb
 clear hv hn ha hb
 go_enter Tryz.func150, Tryz.ntmps150
 go_wp2_with fail
 go_loopg [8] n (fun kx s8 wr => ∃ i : Nat, s8 = ZI ZQ i ∧ i ≤ n ∧ n - i ≤ kx ∧ Hid (xs.any (hitR an bn) = (xs.drop i).any (hitR an bn)) ∧ Below w.heap.size w wr)
 case atStart => exact ⟨0, rfl, by omega, by omega, rfl, Below.refl _ _⟩
 case round =>
  obtain ⟨i, rfl, hi, hkx, hok, hbw⟩ := hrel
  by_cases hlt : i < n
  ·have hir : i < xs.length := by rw [HL.out]; exact hlt
   obtain ⟨x, hx⟩ : ∃ x, xs[i]? = some x := ⟨_, List.getElem?_eq_getElem hir⟩
   have hd : xs.drop i = x :: xs.drop (i + 1) := by
    rw [List.drop_eq_getElem_cons hir]
    congr 1
    rw [List.getElem?_eq_getElem hir] at hx
    exact Option.some.inj hx
   obtain ⟨k, rfl, hk, z0, z1⟩ := (HV.out.below hbw) i x hx
   have HW := hide (hit_any x an bn Ba Bb wr ((hbw.cell (p := ⟨Ba, _, none⟩) hla).trans HA.out) ((hbw.cell (p := ⟨Bb, _, none⟩) hlb).trans HB.out) (Nat.lt_of_lt_of_le hla hbw.size) (Nat.lt_of_lt_of_le hlb hbw.size) a0 a1 b0 b1)
   have HOK : Hid (xs.any (hitR an bn) = (hitR an bn x || (xs.drop (i + 1)).any (hitR an bn))) := by rw [hok, hd]; rfl
   obtain ⟨lo, hi'⟩ := x
   dsimp only at z0 z1 HW
   have hin : (i : Int) < (n : Int) := by omega
   clear hok hx hd hir
   cases hq : hitR an bn ⟨lo, hi'⟩ with
   | true =>
    have HQ := hide hq
    rw [hq] at HW HOK
    clear hq
    go_wp2_with fail
    refine HW.out.mono ?_
    rintro e1 w1 ⟨rfl, hb1⟩
    go_wp2_with fail
    go_ret
    exact ⟨i, rfl, fun _ => by omega, fun h => (by rw [HOK.out] at h; cases h), bw_below' hbw hb1⟩
   | false =>
    have HQ := hide hq
    rw [hq] at HW HOK
    clear hq
    go_wp2_with fail
    refine HW.out.mono ?_
    rintro e1 w1 ⟨rfl, hb1⟩
    go_wp2_with fail
    go_roundg (n - (i + 1))
    case rel => exact ⟨i + 1, by go_num, by omega, by omega, HOK.out, bw_below' hbw hb1⟩
    case measure => omega
  ·obtain rfl : i = n := by omega
   have hin : ¬ (i : Int) < (i : Int) := by omega
   have HOK : Hid (xs.any (hitR an bn) = false) := by rw [hok, List.drop_of_length_le (by rw [HL.out]; exact Nat.le_refl _)]; rfl
   clear hok
   go_wp2_with fail
   go_ret
   exact ⟨-1, rfl, fun h => (by rw [HOK.out] at h; cases h), fun _ => rfl, hbw⟩
set_option maxHeartbeats 1000000 in
theorem contains_hit (v : Option Addr) (n cap : Nat) (xs : List Rg) (an bn : Int) (Ba Bb : Nat) (w : World) (hn : xs.length = n) (hl : n ≤ 1000) (hv : RgAt w v xs) (ha : w.cell? ⟨Ba, 0, none⟩ = some (ZI ZQ an)) (hb : w.cell? ⟨Bb, 0, none⟩ = some (ZI ZQ bn)) (hla : Ba < w.heap.size) (hlb : Bb < w.heap.size)
  (a0 : -1 ≤ an) (a1 : an ≤ 9007199254740991) (b0 : -1 ≤ bn) (b1 : bn ≤ 9007199254740991) :
  Calls Tryz.prog 102 #[.slice v n cap, .func (.func 182) #[] #[.pointer (some ⟨Ba, 0, none⟩), .pointer (some ⟨Bb, 0, none⟩)]] w fun e w' => e = .returned (.bool (xs.any (hitR an bn))) ∧ Below w.heap.size w w' := by
 have HI := hide (index_hit v n cap xs an bn Ba Bb w hn hl hv ha hb hla hlb a0 a1 b0 b1)
 clear hn hv ha hb
 cases hq : xs.any (hitR an bn) with
 | true =>
  have HQ := hide hq
  rw [hq] at HI
  clear hq
  go_enter Tryz.func102, Tryz.ntmps102
  go_wp2_with fail
  refine HI.out.mono ?_
  rintro e1 w1 ⟨R, rfl, h1, _, hO⟩
  have h0 := h1 rfl
  clear h1
  go_wp2_with fail
  go_ret
  exact ⟨rfl, hO⟩
 | false =>
  have HQ := hide hq
  rw [hq] at HI
  clear hq
  go_enter Tryz.func102, Tryz.ntmps102
  go_wp2_with fail
  refine HI.out.mono ?_
  rintro e1 w1 ⟨R, rfl, _, h1, hO⟩
  obtain rfl := h1 rfl
  clear h1
  go_wp2_with fail
  go_ret
  exact ⟨rfl, hO⟩

/-- What was acknowledged: no set, or one. -/
def AckAt (w : World) (v : Value) (rs : List Rg) : Prop := (v = .pointer none ∧ rs = []) ∨ ∃ b g room, v = .pointer (some ⟨b, 0, none⟩) ∧ IsSet w b g room rs
theorem AckAt.below {w w' : World} {v : Value} {rs : List Rg} (h : AckAt w v rs) (hb : Below w.heap.size w w') : AckAt w' v rs := by
 rcases h with h | ⟨b, g, room, h1, h2⟩
 ·exact .inl h
 ·exact .inr ⟨b, g, room, h1, h2.below hb⟩
theorem AckAt.good {w : World} {v : Value} {rs : List Rg} (h : AckAt w v rs) : GoodR rs ∧ rs.length ≤ 256 := by
 rcases h with ⟨_, rfl⟩ | ⟨b, g, room, _, h2⟩
 ·exact ⟨GoodR.nil, by simp⟩
 ·have := h2.len
  exact ⟨h2.good, by omega⟩
theorem snone_yes (w : World) : Calls Tryz.prog 112 #[.pointer none] w fun e w' => e = .returned (.bool true) ∧ w = w' := by
 go_enter Tryz.func112, Tryz.ntmps112
 go_wp2
 go_ret
 exact ⟨rfl, rfl⟩
def AckPost (w : World) (rs : List Rg) (e : Ending) (w' : World) : Prop := ∃ a c, e = .returned (.slice a rs.length c) ∧ RgAt w' a rs.reverse ∧ Below w.heap.size w w'
theorem ack_ranges (v : Value) (rs : List Rg) (w : World) (h : AckAt w v rs) : Calls Tryz.prog 103 #[v] w (AckPost w rs) := by
 rcases h with ⟨rfl, rfl⟩ | ⟨b, g, room, rfl, h2⟩
 ·go_enter Tryz.func103, Tryz.ntmps103
  go_wp2_with fail
  refine (snone_yes _).mono ?_
  rintro e1 w1 ⟨rfl, rfl⟩
  go_wp2_with fail
  go_ret
  exact ⟨none, 0, rfl, fun i r hi => by simp at hi, Below.refl _ _⟩
 ·refine (ranges_any b g room rs w h2).mono ?_
  rintro e w' ⟨v, rfl, hr, _, hb⟩
  obtain ⟨a, c, rfl⟩ := own_slice' hr
  exact ⟨a, c, rfl, own_rgat List.length_reverse hr, hb⟩

set_option maxHeartbeats 1000000 in
theorem free_any (a b : PK) (v : Value) (rs : List Rg) (Bk : Nat) (w : World) (hc : w.cell? ⟨Bk, 0, none⟩ = some v) (hB : Bk < w.heap.size) (hA : AckAt w v rs)
  (a0 : -1 ≤ a.n) (a1 : a.n ≤ 9007199254740991) (b0 : -1 ≤ b.n) (b1 : b.n ≤ 9007199254740991) :
  Calls Tryz.prog 181 #[pkV a, pkV b, .pointer (some ⟨Bk, 0, none⟩)] w fun e w' => e = .returned (.bool (freeR rs a b)) ∧ Below w.heap.size w w' := by
 have hbw : Below w.heap.size w ((w.alloc (.cells (pkC a) 40)).alloc (.cells (pkC b) 40)) := ((Below.refl _ _).alloc (Nat.le_refl _) _).alloc (by simp) _
 have hXa : Blk ((w.alloc (.cells (pkC a) 40)).alloc (.cells (pkC b) 40)) w.heap.size 40 (pkC a) := (Blk.new _ _ _).alloc _
 have hXb : Blk ((w.alloc (.cells (pkC a) 40)).alloc (.cells (pkC b) 40)) (w.heap.size + 1) 40 (pkC b) := by
  have := Blk.new (w.alloc (.cells (pkC a) 40)) 40 (pkC b)
  rw [World.size_alloc] at this
  exact this
 rw [freeR_hit]
 have HR := hide (ack_ranges v rs _ (hA.below hbw))
 have HG := hide hA.good
 have hlen := hA.good.2
 have HXA := hide hXa
 have HXB := hide hXb
 have HBW := hide hbw
 obtain ⟨T, hT⟩ : ∃ T, rs.reverse.any (hitR a.n b.n) = T := ⟨_, rfl⟩
 have HT := hide hT
 rw [hT]
 clear hT hA hXa hXb hbw
 unfold pkV pkC at *
 go_enter Tryz.func181, Tryz.ntmps181
 go_wp2_with fail
 refine HR.out.mono ?_
 rintro e1 w1 ⟨x, c, rfl, hr, hb1⟩
 go_wp2_with fail
 refine (contains_hit x rs.length c rs.reverse a.n b.n w.heap.size (w.heap.size + 1) w1 List.length_reverse (by omega) hr ((hb1.cell (p := ⟨w.heap.size, 0, none⟩) HXA.out.lt).trans (HXA.out.cell 0)) ((hb1.cell (p := ⟨w.heap.size + 1, 0, none⟩) HXB.out.lt).trans (HXB.out.cell 0)) (Nat.lt_of_lt_of_le HXA.out.lt hb1.size) (Nat.lt_of_lt_of_le HXB.out.lt hb1.size) a0 a1 b0 b1).mono ?_
 rintro e2 w2 ⟨rfl, hb2⟩
 rw [HT.out]
 go_wp2_with fail
 go_ret
 exact ⟨rfl, bw_below' (bw_below' HBW.out hb1) hb2⟩
end Go.Proofs.YtgicljeedegncaaGreat

namespace Go.Proofs.YtgicljeedegncaaGreat
open Go.Value renaming int → ZI
open Go.IntKind renaming i64 → ZQ
set_option linter.unusedSimpArgs false
set_option linter.unusedVariables false
open Go.RowKit

def KeepC (S : List Nat) (W W' : World) : Prop := W.heap.size ≤ W'.heap.size ∧ ∀ k o, W.heap[k]? = some o → o.isCells = true → k ∉ S → W'.heap[k]? = some o
section
variable {S : List Nat} {A B C : World}
theorem KeepC.refl (S : List Nat) (A : World) : KeepC S A A := ⟨Nat.le_refl _, fun _ _ h _ _ => h⟩
theorem KeepC.trans (h : KeepC S A B) (k : KeepC S B C) : KeepC S A C := ⟨Nat.le_trans h.1 k.1, fun x o h1 h2 h3 => k.2 x o (h.2 x o h1 h2 h3) h2 h3⟩
theorem keepC_below (h : Below A.heap.size A B) : KeepC S A B := ⟨h.size, fun k o h1 _ _ => (h.block k (Array.getElem?_eq_some_iff.1 h1).1).trans h1⟩
theorem KeepC.lt (h : KeepC S A B) {k : Nat} (hk : k < A.heap.size) : k < B.heap.size := Nat.lt_of_lt_of_le hk h.1
theorem cell_obj {p : Addr} {v : Value} (h : A.cell? p = some v) : ∃ o, A.heap[p.block]? = some o ∧ o.isCells = true := by
 unfold World.cell? at h
 split at h
 ·rename_i e; exact ⟨_, e, rfl⟩
 ·cases h
theorem KeepC.cell (h : KeepC S A B) {p : Addr} {v : Value} (hc : A.cell? p = some v) (hn : p.block ∉ S) : B.cell? p = some v := by
 obtain ⟨o, ho, hi⟩ := cell_obj hc
 rw [World.cell?_of_block ((h.2 _ o ho hi hn).trans ho.symm)]
 exact hc
theorem KeepC.blk (h : KeepC S A B) {k t : Nat} {cs : Array Value} (hb : Blk A k t cs) (hn : k ∉ S) : Blk B k t cs := h.2 k _ hb rfl hn
theorem keepC_putObj (W : World) (l : Nat) (o o' : Obj) (h : W.heap[l]? = some o) (hc : o.isCells = false) : KeepC S W (W.putObj l o') := by
 refine ⟨(grownBy_putObj' W l o').size, fun k x hk hx _ => ?_⟩
 have hlt := (Array.getElem?_eq_some_iff.1 hk).1
 refine ((grownBy_putObj' W l o').block k hlt (fun e => ?_)).trans hk
 cases e
 rw [h] at hk
 cases hk
 rw [hc] at hx
 cases hx
theorem IsSet.keepC {b room : Nat} {g : Option Nat} {rs : List Rg} (h : IsSet A b g room rs) (k : KeepC S A B) (hb : b ∉ S) (hg : ∀ x, g = some x → x ∉ S) : IsSet B b g room rs := by
 obtain ⟨h1, h2, h3, h4, v, hv, hB, hr⟩ := h
 refine ⟨h1, h2, h3, h4, v, hv, k.blk hB hb, hr.1, ?_⟩
 rcases hr.2 with h0 | ⟨x, cap, cur, hv', hg', hh, r⟩
 ·exact .inl h0
 ·exact .inr ⟨x, cap, cur, hv', hg', k.2 x _ hh rfl (hg x (by rw [← hv, hv']; rfl)), r⟩
theorem PksAt.keepC {a : Option Addr} {ps : List PK} (h : PksAt A a ps) (k : KeepC S A B) (hn : ∀ x o, a = some ⟨x, o, none⟩ → x ∉ S) : PksAt B a ps := ⟨h.1, fun i p hi => by
 obtain ⟨x, o, e, hk, hc⟩ := h.2 i p hi
 exact ⟨x, o, e, k.lt hk, fun j v hj => k.cell (hc j v hj) (hn x o e)⟩⟩
end

/-- A set that lies apart from S. -/
def AckS (S : List Nat) (w : World) (v : Value) (rs : List Rg) : Prop := (v = .pointer none ∧ rs = []) ∨ ∃ b g room, v = .pointer (some ⟨b, 0, none⟩) ∧ IsSet w b g room rs ∧ b ∉ S ∧ ∀ k, g = some k → k ∉ S
theorem AckS.at {S : List Nat} {w : World} {v : Value} {rs : List Rg} (h : AckS S w v rs) : AckAt w v rs := by
 rcases h with h | ⟨b, g, room, h1, h2, _⟩
 ·exact .inl h
 ·exact .inr ⟨b, g, room, h1, h2⟩
theorem AckS.keepC {S : List Nat} {A B : World} {v : Value} {rs : List Rg} (h : AckS S A v rs) (k : KeepC S A B) : AckS S B v rs := by
 rcases h with h | ⟨b, g, room, h1, h2, h3, h4⟩
 ·exact .inl h
 ·exact .inr ⟨b, g, room, h1, h2.keepC k h3 h4, h3, h4⟩
/-- What the iterator over the pairs reads. -/
structure PairCtx (S : List Nat) (W : World) (Bl Bc Bg Bf Bk : Nat) (a : Option Addr) (cap : Nat) (ps : List PK) (first : Int) (v : Value) (rs : List Rg) : Prop where
 l : W.cell? ⟨Bl, 0, none⟩ = some (.slice a ps.length cap)
 c : W.cell? ⟨Bc, 0, none⟩ = some (.func (.func 180) #[] #[.pointer (some ⟨Bf, 0, none⟩)])
 g : W.cell? ⟨Bg, 0, none⟩ = some (.func (.func 181) #[] #[.pointer (some ⟨Bk, 0, none⟩)])
 f : W.cell? ⟨Bf, 0, none⟩ = some (ZI ZQ first)
 k : W.cell? ⟨Bk, 0, none⟩ = some v
 nl : Bl ∉ S
 nc : Bc ∉ S
 ng : Bg ∉ S
 nf : Bf ∉ S
 nk : Bk ∉ S
 na : ∀ x o, a = some ⟨x, o, none⟩ → x ∉ S
 ack : AckS S W v rs
 pks : PksAt W a ps
theorem PairCtx.keep {S : List Nat} {W W' : World} {Bl Bc Bg Bf Bk : Nat} {a : Option Addr} {cap : Nat} {ps : List PK} {first : Int} {v : Value} {rs : List Rg} (h : PairCtx S W Bl Bc Bg Bf Bk a cap ps first v rs) (k : KeepC S W W') :
  PairCtx S W' Bl Bc Bg Bf Bk a cap ps first v rs :=
 ⟨k.cell h.l h.nl, k.cell h.c h.nc, k.cell h.g h.ng, k.cell h.f h.nf, k.cell h.k h.nk, h.nl, h.nc, h.ng, h.nf, h.nk, h.na, h.ack.keepC k, h.pks.keepC k h.na⟩
theorem cell_lt {W : World} {k o : Nat} {v : Value} (h : W.cell? ⟨k, o, none⟩ = some v) : k < W.heap.size := by
 obtain ⟨x, hx, _⟩ := cell_obj h
 exact (Array.getElem?_eq_some_iff.1 hx).1
end Go.Proofs.YtgicljeedegncaaGreat

namespace Go.Proofs.YtgicljeedegncaaGreat
open Go.Value renaming int → ZI
open Go.IntKind renaming i64 → ZQ
set_option linter.unusedSimpArgs false
set_option linter.unusedVariables false
open Go.RowKit Go.Shelf
attribute [local go_sem] Oper.semAt_some

theorem isnumber_any (n : Int) (w : World) : Calls Tryz.prog 100 #[ZI ZQ n] w fun e w' => e = .returned (.bool (decide (0 ≤ n) && decide (n ≤ 9007199254740991))) ∧ w = w' := by
 by_cases h1 : 0 ≤ n
 ·by_cases h2 : n ≤ 9007199254740991
  ·go_enter Tryz.func100, Tryz.ntmps100
   go_wp2
   go_ret
   simp [h1, h2]
  ·go_enter Tryz.func100, Tryz.ntmps100
   go_wp2
   go_ret
   simp [h1, h2]
 ·go_enter Tryz.func100, Tryz.ntmps100
  go_wp2
  go_ret
  have h1 : ¬ 0 ≤ n := by omega
  simp [h1]
/-- An ACK of some ranges, without a delay, and without marks. -/
def ackC (a : Option Addr) (n c : Nat) : Array Value := #[ZI ZQ 0, .slice a n c, .bool false, ZI ZQ 0, ZI ZQ 0, ZI ZQ 0]
/-- The ranges of an ACK that may be. -/
structure AckOk (rs : List Rg) : Prop where
 le : rs.length ≤ 256
 pos : 1 ≤ rs.length
 ok : ∀ r ∈ rs, 0 ≤ r.lo ∧ r.lo ≤ r.hi ∧ r.hi ≤ 9007199254740991
 gap : ∀ i p q, rs[i]? = some p → rs[i + 1]? = some q → q.hi + 2 ≤ p.lo
def gapAt (rs : List Rg) : Nat → Int
 | 0 => 0
 | i + 1 => match rs[i]?, rs[i + 1]? with
  | some p, some q => p.lo - q.hi - 2
  | _, _ => 0
theorem gapAt_succ {rs : List Rg} {i : Nat} {p q : Rg} (hp : rs[i]? = some p) (hq : rs[i + 1]? = some q) : gapAt rs (i + 1) = p.lo - q.hi - 2 := by simp [gapAt, hp, hq]
theorem AckOk.gap0 {rs : List Rg} (h : AckOk rs) (i : Nat) : 0 ≤ gapAt rs i := by
 cases i with
 | zero => simp [gapAt]
 | succ i =>
  cases hp : rs[i]? with
  | none => simp [gapAt, hp]
  | some p =>
   cases hq : rs[i + 1]? with
   | none => simp [gapAt, hp, hq]
   | some q =>
    rw [gapAt_succ hp hq]
    have := h.gap i p q hp hq
    omega
def gapL (rs : List Rg) : List (Int × Rg) := rs.mapIdx fun i r => (gapAt rs i, r)
theorem gapL_len (rs : List Rg) : (gapL rs).length = rs.length := by simp [gapL]
theorem gapL_at {rs : List Rg} {i : Nat} {r : Rg} (h : rs[i]? = some r) : (gapL rs)[i]? = some (gapAt rs i, r) := by simp [gapL, h]
def encG (x : Int × Rg) : Array Value := #[ZI ZQ x.1, .agg #[ZI ZQ x.2.lo, ZI ZQ x.2.hi]]
/-- What the iterator reads. -/
structure GpAt (W : World) (Bx : Nat) (a : Option Addr) (c : Nat) (rs : List Rg) : Prop where
 box : Blk W Bx 52 (ackC a rs.length c)
 row : RgAt W a rs
theorem RgAt.keepC {W W' : World} {a : Option Addr} {rs : List Rg} (h : RgAt W a rs) (k : KeepC [] W W') : RgAt W' a rs := fun i r hi => by
 obtain ⟨x, e, hx, z0, z1⟩ := h i r hi
 exact ⟨x, e, k.lt hx, k.cell z0 (by simp), k.cell z1 (by simp)⟩
theorem GpAt.keep {W W' : World} {Bx : Nat} {a : Option Addr} {c : Nat} {rs : List Rg} (h : GpAt W Bx a c rs) (k : KeepC [] W W') : GpAt W' Bx a c rs := ⟨k.blk h.box (by simp), h.row.keepC k⟩
theorem GpAt.below {W W' : World} {Bx : Nat} {a : Option Addr} {c : Nat} {rs : List Rg} (h : GpAt W Bx a c rs) (hb : Below W.heap.size W W') : GpAt W' Bx a c rs := h.keep (keepC_below hb)

set_option maxRecDepth 100000 in
set_option maxHeartbeats 4000000 in
theorem gaps1_in (n : Nat) (hn : 1 ≤ n) (l Bx : Nat) (a : Option Addr) (c : Nat) (rs : List Rg) (hok : AckOk rs) (J Jx : List (Int × Rg) → World → Prop)
  (hJ : ∀ pre A B, J pre A → Below A.heap.size A B → J pre B)
  (hY : ∀ pre x W, J pre W → pre.length < rs.length → YieldAt Fence.wide (n - 1) Tryz.prog l (encG x) W fun e W' =>
   (e = .returned (.bool true) ∧ J (pre ++ [x]) W' ∧ KeepC [] W W') ∨ (e = .returned (.bool false) ∧ Jx (pre ++ [x]) W'))
  (W : World) (hA : GpAt W Bx a c rs) (h0 : J [] W) :
  CallsIn Fence.wide n Tryz.prog 149 #[.func (.yield l) #[] #[], .pointer (some ⟨Bx, 0, none⟩)] W fun e W' => (∃ v, e = .returned v) ∧
   ((∃ ys, ys = gapL rs ∧ J ys W') ∨ (∃ pre, pre <+: gapL rs ∧ Jx pre W')) := by
 refine callsIn_of_wp Tryz.func149 rfl trivial ?_ rfl
 simp only [Tryz.ntmps149, List.size_toArray, List.length_cons, List.length_nil, Nat.reduceAdd, Nat.reduceSub, Array.replicate_succ, Array.replicate_zero, List.push_toArray, List.append_toArray, List.nil_append, List.cons_append]
 have q1 : W.cell? ⟨Bx, 1, none⟩ = some (.slice a rs.length c) := hA.box.cell 1
 have hle := hok.le
 have HA := hide hA
 have HOK := hide hok
 have HJ := hide hJ
 have HY := hide hY
 clear hA hok hJ hY
 obtain ⟨K, hK⟩ : ∃ K, rs.length = K := ⟨_, rfl⟩
 have HK := hide hK
 rw [hK] at q1 hle HY
 clear hK
 gi_wp2
 gi_loopg [9] K (fun kx s9 wr => ∃ i : Nat, s9 = ZI ZQ i ∧ i ≤ K ∧ K - i ≤ kx ∧ J ((gapL rs).take i) wr ∧ GpAt wr Bx a c rs)
 case atStart => exact ⟨0, rfl, by omega, by omega, h0, HA.out⟩
 case round =>
  clear q1 HA h0
  obtain ⟨i, rfl, hi, hkx, hJs, hA⟩ := hrel
  by_cases hlt : i < K
  ·obtain ⟨r, hr⟩ : ∃ r, rs[i]? = some r := ⟨_, List.getElem?_eq_getElem (by rw [HK.out]; exact hlt)⟩
   obtain ⟨k, rfl, hk, z0, z1⟩ := hA.row i r hr
   have q1 : wr.cell? ⟨Bx, 1, none⟩ = some (.slice (some ⟨k, 0, none⟩) rs.length c) := hA.box.cell 1
   rw [HK.out] at q1
   have hbA : Below wr.heap.size wr (wr.alloc (.cells #[ZI ZQ r.lo, ZI ZQ r.hi] 93)) := (Below.refl _ _).alloc (Nat.le_refl _) _
   have hin : (i : Int) < (K : Int) := by omega
   have hi0 : (0 : Int) ≤ (i : Int) := by omega
   have hJ1 := HJ.out _ _ _ hJs hbA
   have hA1 := hA.below hbA
   have hX := Blk.new wr 93 #[ZI ZQ r.lo, ZI ZQ r.hi]
   have x0 : (wr.alloc (.cells #[ZI ZQ r.lo, ZI ZQ r.hi] 93)).cell? ⟨wr.heap.size, 0, none⟩ = some (ZI ZQ r.lo) := hX.cell 0
   have x1 : (wr.alloc (.cells #[ZI ZQ r.lo, ZI ZQ r.hi] 93)).cell? ⟨wr.heap.size, 1, none⟩ = some (ZI ZQ r.hi) := hX.cell 1
   have q1' := (hbA.cell (p := ⟨Bx, 1, none⟩) (cell_lt q1)).trans q1
   have hstep : (gapL rs).take i ++ [(gapAt rs i, r)] = (gapL rs).take (i + 1) := by
    rw [List.take_add_one, gapL_at hr]
    rfl
   have hJ1d := HJ.out _ _ _ hJs hbA.drew
   have HA1 := hide hA1
   clear hA1 hJs hA hX
   cases i with
   | zero =>
    obtain ⟨fn, tmps, assign, body, hy, hR⟩ := HY.out _ (gapAt rs 0, r) (wr.alloc (.cells #[ZI ZQ r.lo, ZI ZQ r.hi] 93)) hJ1 (by rw [List.length_take]; omega)
    unfold encG at hy
    dsimp only at hy
    rw [hstep] at hR
    have HR := hide hR
    clear hR hJ1 hJ1d
    rw [show gapAt rs 0 = 0 from rfl] at hy
    simp only [Int.natCast_zero] at hin hi0 ⊢
    gi_wp2
    refine HR.out.mono ?_
    rintro e W3 (⟨rfl, hJ3, hk3⟩ | ⟨rfl, hJx3⟩)
    ·gi_wp2
     go_roundg (K - (0 + 1))
     case rel => exact ⟨0 + 1, by go_num, by omega, by omega, hJ3, HA1.out.keep hk3⟩
     case measure => omega
    ·gi_wp2
     exact bodyPost_ret (results_none rfl _ _ _) rfl ⟨⟨_, rfl⟩, .inr ⟨_, List.take_prefix _ _, hJx3⟩⟩
   | succ m =>
    obtain ⟨p, hp⟩ : ∃ p, rs[m]? = some p := ⟨_, List.getElem?_eq_getElem (by rw [HK.out]; omega)⟩
    obtain ⟨k', hk', hkl', y0, y1⟩ := HA1.out.row m p hp
    obtain rfl : k = k' := by injection hk' with e1; injection e1
    obtain ⟨fn, tmps, assign, body, hy, hR⟩ := HY.out _ (gapAt rs (m + 1), r) (wr.alloc (.cells #[ZI ZQ r.lo, ZI ZQ r.hi] 93)).drew hJ1d (by rw [List.length_take]; omega)
    unfold encG at hy
    dsimp only at hy
    rw [hstep] at hR
    have HR := hide hR
    clear hR hJ1 hJ1d
    rw [gapAt_succ hp hr] at hy
    have o1 := HOK.out.ok p (List.mem_of_getElem? hp)
    have o2 := HOK.out.ok r (List.mem_of_getElem? hr)
    have hw0 : IntKind.i64.wrap (m : Int) = m := by rw [IntKind.wrap_i64]; omega
    have hw1 : IntKind.i64.wrap (p.lo - r.hi) = p.lo - r.hi := by rw [IntKind.wrap_i64]; omega
    have hw2 : IntKind.i64.wrap (p.lo - r.hi - 2) = p.lo - r.hi - 2 := by rw [IntKind.wrap_i64]; omega
    have hm1 : (m : Int) < (K : Int) := by omega
    have hm2 : (0 : Int) < ((m : Int) + 1) := by omega
    simp only [Int.natCast_add, Int.natCast_one] at hin hi0 ⊢
    gi_upto_region 5 with (fail)
    gi_region
    all_goals
     gi_wp2
     refine HR.out.mono ?_
     rintro e W3 (⟨rfl, hJ3, hk3⟩ | ⟨rfl, hJx3⟩)
     ·gi_wp2
      go_roundg (K - (m + 1 + 1))
      case rel => exact ⟨m + 1 + 1, by go_num, by omega, by omega, hJ3, (HA1.out.below (Below.refl _ _).drew).keep hk3⟩
      case measure => omega
     ·gi_wp2
      exact bodyPost_ret (results_none rfl _ _ _) rfl ⟨⟨_, rfl⟩, .inr ⟨_, List.take_prefix _ _, hJx3⟩⟩
  ·obtain rfl : i = K := by omega
   have hin : ¬ (i : Int) < (i : Int) := by omega
   rw [List.take_of_length_le (by rw [gapL_len, HK.out]; exact Nat.le_refl _)] at hJs
   gi_wp2
   go_end0
   first
   | exact ⟨⟨_, rfl⟩, .inl ⟨_, rfl, hJs⟩⟩
   | exact ⟨⟨_, rfl⟩, .inl hJs⟩
end Go.Proofs.YtgicljeedegncaaGreat
