/-
 3 texts in one (KeepC, FrameGaps, FrameCheck).
-/
import Derived.Test.YtgicljeedegncaaGreatSqPersistFree
import Derived.Test.YtgicljeedegncaaGreatSqSpanIter2
import Derived.Test.YtgicljeedegncaaGreatSqSentParts
import Derived.Sort.LoopGhostIn
import Derived.Sort.CutIn
import Derived.BigRegionIn
import Derived.RegionIn
namespace Go.Proofs.YtgicljeedegncaaGreat
open Go.Value renaming int → ZI
open Go.IntKind renaming i64 → ZQ
set_option linter.unusedSimpArgs false
set_option linter.unusedVariables false
open Go.RowKit

def KeepC (S : List Nat) (W W' : World) : Prop := W.heap.size ≤ W'.heap.size ∧ ∀ k o, W.heap[k]? = some o → o.isCells = true → k ∉ S → W'.heap[k]? = some o
section
variable {S : List Nat} {A B C : World}
theorem KeepC.refl (S : List Nat) (A : World) : KeepC S A A := ⟨Nat.le_refl _, fun _ _ h _ _ => h⟩
theorem KeepC.trans (h : KeepC S A B) (k : KeepC S B C) : KeepC S A C := ⟨Nat.le_trans h.1 k.1, fun x o h1 h2 h3 => k.2 x o (h.2 x o h1 h2 h3) h2 h3⟩
theorem keepC_below (h : Below A.heap.size A B) : KeepC S A B := ⟨h.size, fun k o h1 _ _ => (h.block k (Array.getElem?_eq_some_iff.1 h1).1).trans h1⟩
theorem KeepC.lt (h : KeepC S A B) {k : Nat} (hk : k < A.heap.size) : k < B.heap.size := Nat.lt_of_lt_of_le hk h.1
theorem cell_obj {p : Addr} {v : Value} (h : A.cell? p = some v) : ∃ o, A.heap[p.block]? = some o ∧ o.isCells = true := by
 unfold World.cell? at h
 split at h
 ·rename_i e; exact ⟨_, e, rfl⟩
 ·cases h
theorem KeepC.cell (h : KeepC S A B) {p : Addr} {v : Value} (hc : A.cell? p = some v) (hn : p.block ∉ S) : B.cell? p = some v := by
 obtain ⟨o, ho, hi⟩ := cell_obj hc
 rw [World.cell?_of_block ((h.2 _ o ho hi hn).trans ho.symm)]
 exact hc
theorem KeepC.blk (h : KeepC S A B) {k t : Nat} {cs : Array Value} (hb : Blk A k t cs) (hn : k ∉ S) : Blk B k t cs := h.2 k _ hb rfl hn
theorem keepC_putObj (W : World) (l : Nat) (o o' : Obj) (h : W.heap[l]? = some o) (hc : o.isCells = false) : KeepC S W (W.putObj l o') := by
 refine ⟨(grownBy_putObj' W l o').size, fun k x hk hx _ => ?_⟩
 have hlt := (Array.getElem?_eq_some_iff.1 hk).1
 refine ((grownBy_putObj' W l o').block k hlt (fun e => ?_)).trans hk
 cases e
 rw [h] at hk
 cases hk
 rw [hc] at hx
 cases hx
theorem IsSet.keepC {b room : Nat} {g : Option Nat} {rs : List Rg} (h : IsSet A b g room rs) (k : KeepC S A B) (hb : b ∉ S) (hg : ∀ x, g = some x → x ∉ S) : IsSet B b g room rs := by
 obtain ⟨h1, h2, h3, h4, v, hv, hB, hr⟩ := h
 refine ⟨h1, h2, h3, h4, v, hv, k.blk hB hb, hr.1, ?_⟩
 rcases hr.2 with h0 | ⟨x, cap, cur, hv', hg', hh, r⟩
 ·exact .inl h0
 ·exact .inr ⟨x, cap, cur, hv', hg', k.2 x _ hh rfl (hg x (by rw [← hv, hv']; rfl)), r⟩
theorem PksAt.keepC {a : Option Addr} {ps : List PK} (h : PksAt A a ps) (k : KeepC S A B) (hn : ∀ x o, a = some ⟨x, o, none⟩ → x ∉ S) : PksAt B a ps := ⟨h.1, fun i p hi => by
 obtain ⟨x, o, e, hk, hc⟩ := h.2 i p hi
 exact ⟨x, o, e, k.lt hk, fun j v hj => k.cell (hc j v hj) (hn x o e)⟩⟩
end

/-- A set that lies apart from S. -/
def AckS (S : List Nat) (w : World) (v : Value) (rs : List Rg) : Prop := (v = .pointer none ∧ rs = []) ∨ ∃ b g room, v = .pointer (some ⟨b, 0, none⟩) ∧ IsSet w b g room rs ∧ b ∉ S ∧ ∀ k, g = some k → k ∉ S
theorem AckS.at {S : List Nat} {w : World} {v : Value} {rs : List Rg} (h : AckS S w v rs) : AckAt w v rs := by
 rcases h with h | ⟨b, g, room, h1, h2, _⟩
 ·exact .inl h
 ·exact .inr ⟨b, g, room, h1, h2⟩
theorem AckS.keepC {S : List Nat} {A B : World} {v : Value} {rs : List Rg} (h : AckS S A v rs) (k : KeepC S A B) : AckS S B v rs := by
 rcases h with h | ⟨b, g, room, h1, h2, h3, h4⟩
 ·exact .inl h
 ·exact .inr ⟨b, g, room, h1, h2.keepC k h3 h4, h3, h4⟩
/-- What the iterator over the pairs reads. -/
structure PairCtx (S : List Nat) (W : World) (Bl Bc Bg Bf Bk : Nat) (a : Option Addr) (cap : Nat) (ps : List PK) (first : Int) (v : Value) (rs : List Rg) : Prop where
 l : W.cell? ⟨Bl, 0, none⟩ = some (.slice a ps.length cap)
 c : W.cell? ⟨Bc, 0, none⟩ = some (.func (.func 180) #[] #[.pointer (some ⟨Bf, 0, none⟩)])
 g : W.cell? ⟨Bg, 0, none⟩ = some (.func (.func 181) #[] #[.pointer (some ⟨Bk, 0, none⟩)])
 f : W.cell? ⟨Bf, 0, none⟩ = some (ZI ZQ first)
 k : W.cell? ⟨Bk, 0, none⟩ = some v
 nl : Bl ∉ S
 nc : Bc ∉ S
 ng : Bg ∉ S
 nf : Bf ∉ S
 nk : Bk ∉ S
 na : ∀ x o, a = some ⟨x, o, none⟩ → x ∉ S
 ack : AckS S W v rs
 pks : PksAt W a ps
theorem PairCtx.keep {S : List Nat} {W W' : World} {Bl Bc Bg Bf Bk : Nat} {a : Option Addr} {cap : Nat} {ps : List PK} {first : Int} {v : Value} {rs : List Rg} (h : PairCtx S W Bl Bc Bg Bf Bk a cap ps first v rs) (k : KeepC S W W') :
  PairCtx S W' Bl Bc Bg Bf Bk a cap ps first v rs :=
 ⟨k.cell h.l h.nl, k.cell h.c h.nc, k.cell h.g h.ng, k.cell h.f h.nf, k.cell h.k h.nk, h.nl, h.nc, h.ng, h.nf, h.nk, h.na, h.ack.keepC k, h.pks.keepC k h.na⟩
theorem cell_lt {W : World} {k o : Nat} {v : Value} (h : W.cell? ⟨k, o, none⟩ = some v) : k < W.heap.size := by
 obtain ⟨x, hx, _⟩ := cell_obj h
 exact (Array.getElem?_eq_some_iff.1 hx).1
end Go.Proofs.YtgicljeedegncaaGreat

namespace Go.Proofs.YtgicljeedegncaaGreat
open Go.Value renaming int → ZI
open Go.IntKind renaming i64 → ZQ
set_option linter.unusedSimpArgs false
set_option linter.unusedVariables false
open Go.RowKit Go.Shelf
attribute [local go_sem] Oper.semAt_some

theorem isnumber_any (n : Int) (w : World) : Calls Tryz.prog 100 #[ZI ZQ n] w fun e w' => e = .returned (.bool (decide (0 ≤ n) && decide (n ≤ 9007199254740991))) ∧ w = w' := by
 by_cases h1 : 0 ≤ n
 ·by_cases h2 : n ≤ 9007199254740991
  ·go_enter Tryz.func100, Tryz.ntmps100
   go_wp2
   go_ret
   simp [h1, h2]
  ·go_enter Tryz.func100, Tryz.ntmps100
   go_wp2
   go_ret
   simp [h1, h2]
 ·go_enter Tryz.func100, Tryz.ntmps100
  go_wp2
  go_ret
  have h1 : ¬ 0 ≤ n := by omega
  simp [h1]
/-- An ACK of some ranges, without a delay, and without marks. -/
def ackC (a : Option Addr) (n c : Nat) : Array Value := #[ZI ZQ 0, .slice a n c, .bool false, ZI ZQ 0, ZI ZQ 0, ZI ZQ 0]
/-- The ranges of an ACK that may be. -/
structure AckOk (rs : List Rg) : Prop where
 le : rs.length ≤ 256
 pos : 1 ≤ rs.length
 ok : ∀ r ∈ rs, 0 ≤ r.lo ∧ r.lo ≤ r.hi ∧ r.hi ≤ 9007199254740991
 gap : ∀ i p q, rs[i]? = some p → rs[i + 1]? = some q → q.hi + 2 ≤ p.lo
def gapAt (rs : List Rg) : Nat → Int
 | 0 => 0
 | i + 1 => match rs[i]?, rs[i + 1]? with
  | some p, some q => p.lo - q.hi - 2
  | _, _ => 0
theorem gapAt_succ {rs : List Rg} {i : Nat} {p q : Rg} (hp : rs[i]? = some p) (hq : rs[i + 1]? = some q) : gapAt rs (i + 1) = p.lo - q.hi - 2 := by simp [gapAt, hp, hq]
theorem AckOk.gap0 {rs : List Rg} (h : AckOk rs) (i : Nat) : 0 ≤ gapAt rs i := by
 cases i with
 | zero => simp [gapAt]
 | succ i =>
  cases hp : rs[i]? with
  | none => simp [gapAt, hp]
  | some p =>
   cases hq : rs[i + 1]? with
   | none => simp [gapAt, hp, hq]
   | some q =>
    rw [gapAt_succ hp hq]
    have := h.gap i p q hp hq
    omega
def gapL (rs : List Rg) : List (Int × Rg) := rs.mapIdx fun i r => (gapAt rs i, r)
theorem gapL_len (rs : List Rg) : (gapL rs).length = rs.length := by simp [gapL]
theorem gapL_at {rs : List Rg} {i : Nat} {r : Rg} (h : rs[i]? = some r) : (gapL rs)[i]? = some (gapAt rs i, r) := by simp [gapL, h]
def encG (x : Int × Rg) : Array Value := #[ZI ZQ x.1, .agg #[ZI ZQ x.2.lo, ZI ZQ x.2.hi]]
/-- What the iterator reads. -/
structure GpAt (W : World) (Bx : Nat) (a : Option Addr) (c : Nat) (rs : List Rg) : Prop where
 box : Blk W Bx 52 (ackC a rs.length c)
 row : RgAt W a rs
theorem RgAt.keepC {W W' : World} {a : Option Addr} {rs : List Rg} (h : RgAt W a rs) (k : KeepC [] W W') : RgAt W' a rs := fun i r hi => by
 obtain ⟨x, e, hx, z0, z1⟩ := h i r hi
 exact ⟨x, e, k.lt hx, k.cell z0 (by simp), k.cell z1 (by simp)⟩
theorem GpAt.keep {W W' : World} {Bx : Nat} {a : Option Addr} {c : Nat} {rs : List Rg} (h : GpAt W Bx a c rs) (k : KeepC [] W W') : GpAt W' Bx a c rs := ⟨k.blk h.box (by simp), h.row.keepC k⟩
theorem GpAt.below {W W' : World} {Bx : Nat} {a : Option Addr} {c : Nat} {rs : List Rg} (h : GpAt W Bx a c rs) (hb : Below W.heap.size W W') : GpAt W' Bx a c rs := h.keep (keepC_below hb)

set_option maxRecDepth 100000 in
set_option maxHeartbeats 4000000 in
theorem gaps1_in (n : Nat) (hn : 1 ≤ n) (l Bx : Nat) (a : Option Addr) (c : Nat) (rs : List Rg) (hok : AckOk rs) (J Jx : List (Int × Rg) → World → Prop)
  (hJ : ∀ pre A B, J pre A → Below A.heap.size A B → J pre B)
  (hY : ∀ pre x W, J pre W → pre.length < rs.length → YieldAt Fence.wide (n - 1) Tryz.prog l (encG x) W fun e W' =>
   (e = .returned (.bool true) ∧ J (pre ++ [x]) W' ∧ KeepC [] W W') ∨ (e = .returned (.bool false) ∧ Jx (pre ++ [x]) W'))
  (W : World) (hA : GpAt W Bx a c rs) (h0 : J [] W) :
  CallsIn Fence.wide n Tryz.prog 149 #[.func (.yield l) #[] #[], .pointer (some ⟨Bx, 0, none⟩)] W fun e W' => (∃ v, e = .returned v) ∧
   ((∃ ys, ys = gapL rs ∧ J ys W') ∨ (∃ pre, pre <+: gapL rs ∧ Jx pre W')) := by
 refine callsIn_of_wp Tryz.func149 rfl trivial ?_ rfl
 simp only [Tryz.ntmps149, List.size_toArray, List.length_cons, List.length_nil, Nat.reduceAdd, Nat.reduceSub, Array.replicate_succ, Array.replicate_zero, List.push_toArray, List.append_toArray, List.nil_append, List.cons_append]
 have q1 : W.cell? ⟨Bx, 1, none⟩ = some (.slice a rs.length c) := hA.box.cell 1
 have hle := hok.le
 have HA := hide hA
 have HOK := hide hok
 have HJ := hide hJ
 have HY := hide hY
 clear hA hok hJ hY
 obtain ⟨K, hK⟩ : ∃ K, rs.length = K := ⟨_, rfl⟩
 have HK := hide hK
 rw [hK] at q1 hle HY
 clear hK
 gi_wp2
 gi_loopg [9] K (fun kx s9 wr => ∃ i : Nat, s9 = ZI ZQ i ∧ i ≤ K ∧ K - i ≤ kx ∧ J ((gapL rs).take i) wr ∧ GpAt wr Bx a c rs)
 case atStart => exact ⟨0, rfl, by omega, by omega, h0, HA.out⟩
 case round =>
  clear q1 HA h0
  obtain ⟨i, rfl, hi, hkx, hJs, hA⟩ := hrel
  by_cases hlt : i < K
  ·obtain ⟨r, hr⟩ : ∃ r, rs[i]? = some r := ⟨_, List.getElem?_eq_getElem (by rw [HK.out]; exact hlt)⟩
   obtain ⟨k, rfl, hk, z0, z1⟩ := hA.row i r hr
   have q1 : wr.cell? ⟨Bx, 1, none⟩ = some (.slice (some ⟨k, 0, none⟩) rs.length c) := hA.box.cell 1
   rw [HK.out] at q1
   have hbA : Below wr.heap.size wr (wr.alloc (.cells #[ZI ZQ r.lo, ZI ZQ r.hi] 93)) := (Below.refl _ _).alloc (Nat.le_refl _) _
   have hin : (i : Int) < (K : Int) := by omega
   have hi0 : (0 : Int) ≤ (i : Int) := by omega
   have hJ1 := HJ.out _ _ _ hJs hbA
   have hA1 := hA.below hbA
   have hX := Blk.new wr 93 #[ZI ZQ r.lo, ZI ZQ r.hi]
   have x0 : (wr.alloc (.cells #[ZI ZQ r.lo, ZI ZQ r.hi] 93)).cell? ⟨wr.heap.size, 0, none⟩ = some (ZI ZQ r.lo) := hX.cell 0
   have x1 : (wr.alloc (.cells #[ZI ZQ r.lo, ZI ZQ r.hi] 93)).cell? ⟨wr.heap.size, 1, none⟩ = some (ZI ZQ r.hi) := hX.cell 1
   have q1' := (hbA.cell (p := ⟨Bx, 1, none⟩) (cell_lt q1)).trans q1
   have hstep : (gapL rs).take i ++ [(gapAt rs i, r)] = (gapL rs).take (i + 1) := by
    rw [List.take_add_one, gapL_at hr]
    rfl
   have hJ1d := HJ.out _ _ _ hJs hbA.drew
   have HA1 := hide hA1
   clear hA1 hJs hA hX
   cases i with
   | zero =>
    obtain ⟨fn, tmps, assign, body, hy, hR⟩ := HY.out _ (gapAt rs 0, r) (wr.alloc (.cells #[ZI ZQ r.lo, ZI ZQ r.hi] 93)) hJ1 (by rw [List.length_take]; omega)
    unfold encG at hy
    dsimp only at hy
    rw [hstep] at hR
    have HR := hide hR
    clear hR hJ1 hJ1d
    rw [show gapAt rs 0 = 0 from rfl] at hy
    simp only [Int.natCast_zero] at hin hi0 ⊢
    gi_wp2
    refine HR.out.mono ?_
    rintro e W3 (⟨rfl, hJ3, hk3⟩ | ⟨rfl, hJx3⟩)
    ·gi_wp2
     go_roundg (K - (0 + 1))
     case rel => exact ⟨0 + 1, by go_num, by omega, by omega, hJ3, HA1.out.keep hk3⟩
     case measure => omega
    ·gi_wp2
     exact bodyPost_ret (results_none rfl _ _ _) rfl ⟨⟨_, rfl⟩, .inr ⟨_, List.take_prefix _ _, hJx3⟩⟩
   | succ m =>
    obtain ⟨p, hp⟩ : ∃ p, rs[m]? = some p := ⟨_, List.getElem?_eq_getElem (by rw [HK.out]; omega)⟩
    obtain ⟨k', hk', hkl', y0, y1⟩ := HA1.out.row m p hp
    obtain rfl : k = k' := by injection hk' with e1; injection e1
    obtain ⟨fn, tmps, assign, body, hy, hR⟩ := HY.out _ (gapAt rs (m + 1), r) (wr.alloc (.cells #[ZI ZQ r.lo, ZI ZQ r.hi] 93)).drew hJ1d (by rw [List.length_take]; omega)
    unfold encG at hy
    dsimp only at hy
    rw [hstep] at hR
    have HR := hide hR
    clear hR hJ1 hJ1d
    rw [gapAt_succ hp hr] at hy
    have o1 := HOK.out.ok p (List.mem_of_getElem? hp)
    have o2 := HOK.out.ok r (List.mem_of_getElem? hr)
    have hw0 : IntKind.i64.wrap (m : Int) = m := by rw [IntKind.wrap_i64]; omega
    have hw1 : IntKind.i64.wrap (p.lo - r.hi) = p.lo - r.hi := by rw [IntKind.wrap_i64]; omega
    have hw2 : IntKind.i64.wrap (p.lo - r.hi - 2) = p.lo - r.hi - 2 := by rw [IntKind.wrap_i64]; omega
    have hm1 : (m : Int) < (K : Int) := by omega
    have hm2 : (0 : Int) < ((m : Int) + 1) := by omega
    simp only [Int.natCast_add, Int.natCast_one] at hin hi0 ⊢
    gi_upto_region 5 with (fail)
    gi_region
    all_goals
     gi_wp2
     refine HR.out.mono ?_
     rintro e W3 (⟨rfl, hJ3, hk3⟩ | ⟨rfl, hJx3⟩)
     ·gi_wp2
      go_roundg (K - (m + 1 + 1))
      case rel => exact ⟨m + 1 + 1, by go_num, by omega, by omega, hJ3, (HA1.out.below (Below.refl _ _).drew).keep hk3⟩
      case measure => omega
     ·gi_wp2
      exact bodyPost_ret (results_none rfl _ _ _) rfl ⟨⟨_, rfl⟩, .inr ⟨_, List.take_prefix _ _, hJx3⟩⟩
  ·obtain rfl : i = K := by omega
   have hin : ¬ (i : Int) < (i : Int) := by omega
   rw [List.take_of_length_le (by rw [gapL_len, HK.out]; exact Nat.le_refl _)] at hJs
   gi_wp2
   go_end0
   first
   | exact ⟨⟨_, rfl⟩, .inl ⟨_, rfl, hJs⟩⟩
   | exact ⟨⟨_, rfl⟩, .inl hJs⟩
end Go.Proofs.YtgicljeedegncaaGreat

namespace Go.Proofs.YtgicljeedegncaaGreat
open Go.Value renaming int → ZI
open Go.IntKind renaming i64 → ZQ
set_option linter.unusedSimpArgs false
set_option linter.unusedVariables false
open Go.RowKit Go.Shelf
attribute [local go_sem] Oper.semAt_some

theorem frame_gaps_in (n : Nat) (a : Option Addr) (k c : Nat) (w : World) : CallsIn Fence.wide n Tryz.prog 101 #[.agg (ackC a k c)] w fun e w' => e = .returned (.func (.func 149) #[] #[.pointer (some ⟨w.heap.size, 0, none⟩)]) ∧ w' = w.alloc (.cells (ackC a k c) 52) := by
 unfold ackC
 refine callsIn_of_wp Tryz.func101 rfl trivial ?_ rfl
 simp only [Tryz.ntmps101, List.size_toArray, List.length_cons, List.length_nil, Nat.reduceAdd, Nat.reduceSub, Array.replicate_succ, Array.replicate_zero, List.push_toArray, List.append_toArray, List.nil_append, List.cons_append]
 gi_wp2
 go_ret
 exact ⟨rfl, rfl⟩
structure CkAt (w W : World) (a : Option Addr) (c : Nat) (rs : List Rg) : Prop where
 gp : GpAt W w.heap.size a c rs
 res : Blk W (w.heap.size + 1) 24 #[ZI ZQ 0]
 below : Below w.heap.size w W
theorem CkAt.later {w W W' : World} {a : Option Addr} {c : Nat} {rs : List Rg} (h : CkAt w W a c rs) (hb : Below W.heap.size W W') : CkAt w W' a c rs := ⟨h.gp.below hb, (hb.block _ h.res.lt).trans h.res, bw_below' h.below hb⟩
theorem CkAt.six {w W : World} {a : Option Addr} {c : Nat} {rs : List Rg} (h : CkAt w W a c rs) : W.cell? ⟨w.heap.size, 0, none⟩ = some (ZI ZQ 0) ∧ W.cell? ⟨w.heap.size, 1, none⟩ = some (.slice a rs.length c) ∧ W.cell? ⟨w.heap.size, 2, none⟩ = some (.bool false) ∧ W.cell? ⟨w.heap.size, 3, none⟩ = some (ZI ZQ 0) ∧ W.cell? ⟨w.heap.size, 4, none⟩ = some (ZI ZQ 0) ∧ W.cell? ⟨w.heap.size, 5, none⟩ = some (ZI ZQ 0) := ⟨h.gp.box.cell 0, h.gp.box.cell 1, h.gp.box.cell 2, h.gp.box.cell 3, h.gp.box.cell 4, h.gp.box.cell 5⟩
theorem num_true {n : Int} (h0 : 0 ≤ n) (h1 : n ≤ 9007199254740991) : (decide (0 ≤ n) && decide (n ≤ 9007199254740991)) = true := by simp [h0, h1]
theorem isnumber_yes (n : Int) (m : Nat) (w : World) (h0 : 0 ≤ n) (h1 : n ≤ 9007199254740991) : CallsIn Fence.wide m Tryz.prog 100 #[ZI ZQ n] w fun e w' => e = .returned (.bool true) ∧ w = w' :=
 callsIn_wide.2 ((isnumber_any n w).mono fun e w' ⟨h, hw⟩ => ⟨by rw [h, num_true h0 h1], hw⟩)

theorem part_i64 (xs : Array Value) (o : Nat) (n : Int) (h : xs[o]? = some (ZI ZQ n)) (W : World) : (part 3 xs o).run Tryz.prog W = .ok (ZI ZQ n) W := by
 simp [part, go_sem, h]
theorem idx3_zero (W : World) (j : Nat) (h : j < 3) : (Instr.index 33 (.agg #[ZI ZQ 0, ZI ZQ 0, ZI ZQ 0]) (ZI ZQ (j : Int))).run Tryz.prog W = .ok (ZI ZQ 0) W := by
 have hu : Tryz.prog.underlying 33 = some (.array 3 3) := by kernel_rfl
 have h0 : (0 : Int) ≤ j ∧ (j : Int) < 3 := by omega
 have hs : (sizeOf 3).run Tryz.prog W = .ok 1 W := by
  simp [sizeOf, go_sem]
  rfl
 have hp : (part 3 #[ZI ZQ 0, ZI ZQ 0, ZI ZQ 0] j).run Tryz.prog W = .ok (ZI ZQ 0) W := part_i64 _ j 0 (by
  match j, h with
  | 0, _ => rfl
  | 1, _ => rfl
  | 2, _ => rfl) W
 simp [Instr.index, run_underlying hu, asIntOf, h0, Sem.run_bind, hs, hp]
 exact fun h3 => absurd h3 (by omega)
theorem grown_kC {X Y : World} {row : Option Nat} (hg : X.grownBy Y row) (hr : ∀ r, row = some r → ∃ o : Obj, X.heap[r]? = some o ∧ o.isCells = false) : KeepC [] X Y := by
 refine ⟨hg.size, fun k o hk ho _ => (hg.block k (Array.getElem?_eq_some_iff.1 hk).1 (fun e => ?_)).trans hk⟩
 obtain ⟨o', h1, h2⟩ := hr k e.symm
 rw [hk] at h1
 cases h1
 rw [ho] at h2
 cases h2
theorem setCell_same {W : World} {k t : Nat} {v : Value} (h : Blk W k t #[v]) : W.setCell ⟨k, 0, none⟩ v = W := by
 have e : (W.setCell ⟨k, 0, none⟩ v).heap = W.heap := by
  apply Array.ext_getElem?
  intro i
  by_cases hi : k = i
  ·subst hi
   exact (h.set 0 v).trans h.symm
  ·exact Below.heap_setCell W ⟨k, 0, none⟩ v i (fun e => hi e.symm)
 unfold World.setCell at *
 rw [show W = { heap := W.heap, tape := W.tape, drawn := W.drawn, os := W.os, output := W.output } from rfl]
 simp only at e ⊢
 rw [e]
theorem chk_results {W : World} {B : Nat} (c0 : W.cell? ⟨B, 0, none⟩ = some (ZI ZQ 0)) (tmps : Array Value) (h2 : tmps.getD 2 undef = .pointer (some ⟨B, 0, none⟩)) :
  (results Tryz.f57 tmps).run Tryz.prog W = .ok (ZI ZQ 0) W := by
 simp only [Array.getD_eq_getD_getElem?] at h2
 simp [results, Tryz.f57, go_sem, h2, c0]

set_option maxRecDepth 100000 in
set_option maxHeartbeats 8000000 in
theorem check_in (n : Nat) (hn : 4 ≤ n) (a : Option Addr) (c : Nat) (rs : List Rg) (w : World) (hok : AckOk rs) (hR : RgAt w a rs) :
  CallsIn Fence.wide n Tryz.prog 57 #[.agg (ackC a rs.length c)] w fun e W' => e = .returned (ZI ZQ 0) ∧ Below w.heap.size w W' := by
 have h1 : 1 ≤ n := by omega
 refine callsIn_of_wp_marks Tryz.func57 rfl trivial ?_ rfl
 simp only [Tryz.ntmps57, List.size_toArray, List.length_cons, List.length_nil, Nat.reduceAdd, Nat.reduceSub, Array.replicate_succ, Array.replicate_zero, List.push_toArray, List.append_toArray, List.nil_append, List.cons_append]
 have hb0 : Below w.heap.size w ((w.alloc (.cells (ackC a rs.length c) 52)).alloc (.cells #[ZI ZQ 0] 24)) := ((Below.refl _ _).alloc (Nat.le_refl _) _).alloc (by simp) _
 have hc0 : CkAt w ((w.alloc (.cells (ackC a rs.length c) 52)).alloc (.cells #[ZI ZQ 0] 24)) a c rs := by
  refine ⟨⟨(Blk.new _ _ _).alloc _, hR.below hb0⟩, ?_, hb0⟩
  have := Blk.new (w.alloc (.cells (ackC a rs.length c) 52)) 24 #[ZI ZQ 0]
  rw [World.size_alloc] at this
  exact this
 obtain ⟨x0, x1, x2, x3, x4, x5⟩ := hc0.six
 have hle := hok.le
 have hpos := hok.pos
 have HC := hide hc0
 have HOK := hide hok
 clear hb0 hc0 hR hok
 obtain ⟨K, hK⟩ : ∃ K, rs.length = K := ⟨_, rfl⟩
 have HK := hide hK
 rw [hK] at x0 x1 x2 x3 x4 x5 hle hpos HC ⊢
 clear hK
 unfold ackC at x0 x1 x2 x3 x4 x5 HC ⊢
 have hk1 : ¬ (K : Int) < 1 := by omega
 have hk2 : ¬ (256 : Int) < (K : Int) := by omega
 gi_wp2_with fail
 refine ⟨trivial, (isnumber_yes _ _ _ (by omega) (by omega)).mono ?_⟩
 rintro e1 w1 ⟨rfl, rfl⟩
 gi_wp2_with fail
 gi_loopg [27] K (fun kx s27 wr => ∃ i : Nat, s27 = ZI ZQ i ∧ i ≤ K ∧ K - i ≤ kx ∧ CkAt w wr a c rs)
 case atStart => exact ⟨0, rfl, by omega, by omega, HC.out⟩
 case round =>
  clear x0 x1 x2 x3 x4 x5 HC
  obtain ⟨i, rfl, hi, hkx, hC⟩ := hrel
  by_cases hlt : i < K
  ·obtain ⟨r, hr⟩ : ∃ r, rs[i]? = some r := ⟨_, List.getElem?_eq_getElem (by rw [HK.out]; exact hlt)⟩
   obtain ⟨o0, o1, o2⟩ := HOK.out.ok r (List.mem_of_getElem? hr)
   obtain ⟨k, rfl, hk, z0, z1⟩ := hC.gp.row i r hr
   have hba : Below wr.heap.size wr (wr.alloc (.cells #[ZI ZQ r.lo, ZI ZQ r.hi] 93)) := (Below.refl _ _).alloc (Nat.le_refl _) _
   have hx := Blk.new wr 93 #[ZI ZQ r.lo, ZI ZQ r.hi]
   have y0 : (wr.alloc (.cells #[ZI ZQ r.lo, ZI ZQ r.hi] 93)).cell? ⟨wr.heap.size, 0, none⟩ = some (ZI ZQ r.lo) := hx.cell 0
   have y1 : (wr.alloc (.cells #[ZI ZQ r.lo, ZI ZQ r.hi] 93)).cell? ⟨wr.heap.size, 1, none⟩ = some (ZI ZQ r.hi) := hx.cell 1
   have HC1 := hide (hC.later hba)
   have hin : (i : Int) < (K : Int) := by omega
   have hi0 : (0 : Int) ≤ (i : Int) := by omega
   have hgt : ¬ r.hi < r.lo := by omega
   clear hC hba hx hr
   gi_wp2_with fail
   refine ⟨trivial, (isnumber_yes _ _ _ (by omega) (by omega)).mono ?_⟩
   rintro e1 w1 ⟨rfl, rfl⟩
   gi_wp2_with fail
   refine ⟨trivial, (isnumber_yes _ _ _ (by omega) (by omega)).mono ?_⟩
   rintro e1 w1 ⟨rfl, rfl⟩
   gi_wp2_with fail
   go_roundg (K - (i + 1))
   case rel => exact ⟨i + 1, by go_num, by omega, by omega, HC1.out⟩
   case measure => omega
  ·obtain rfl : i = K := by omega
   have hin : ¬ (i : Int) < (i : Int) := by omega
   obtain ⟨x0, x1, x2, x3, x4, x5⟩ := hC.six
   have hC7 := hC.later ((Below.refl _ _).alloc (Nat.le_refl _) (.cells (ackC a rs.length c) 52))
   have hG7 : GpAt (wr.alloc (.cells (ackC a rs.length c) 52)) wr.heap.size a c rs := ⟨Blk.new _ _ _, (hC.gp.row).below ((Below.refl _ _).alloc (Nat.le_refl _) _)⟩
   rw [HK.out] at x1
   have HC := hide hC
   have HC7 := hide hC7
   have HG7 := hide hG7
   clear hC hC7 hG7
   gi_wp2_with fail
   refine ⟨trivial, (frame_gaps_in _ a i c _).mono ?_⟩
   rintro e1 w1 ⟨rfl, hw1⟩
   have HC8 : Hid (CkAt w w1 a c rs) := by
    rw [hw1]
    have h := HC7.out
    rw [HK.out] at h
    exact h
   have HG8 : Hid (GpAt w1 wr.heap.size a c rs) := by
    rw [hw1]
    have h := HG7.out
    rw [HK.out] at h
    exact h
   clear hw1 HC7 HG7 HC x0 x1 x2 x3 x4 x5
   have hsz := HC8.out.below.size
   gi_wp2_with fail
   refine wpIn_rangeFunc_ownH rfl h1 (gf := 149) (lb := #[.pointer (some ⟨wr.heap.size, 0, none⟩)]) rfl trivial (enters_of Tryz.func149 (by kernel_rfl) rfl)
    (encs := encG) (Kp := KeepC []) (S := fun ys => ys = gapL rs) (Sp := fun pre => pre <+: gapL rs) (N := rs.length) (w0 := w1)
    (fun l J Jx W hW hJab _ hY h0 => gaps1_in (n - 1) (by omega) l wr.heap.size a c rs HOK.out J Jx (fun pre A B hj hb => hJab pre A B none hj ⟨hb.os, hb.tape, hb.output, hb.size, fun k hk _ => hb.block k hk⟩ (fun r e => by cases e)) hY W (HG8.out.below hW) h0)
    KeepC.trans (fun W l o o' _ h hc _ => keepC_putObj W l o o' h hc) (Below.refl _ _) (fun _ => rfl)
    (fun pre W => CkAt w W a c rs)
    (fun _ pre _ => ∃ x ∈ pre, x.1 < 0)
    (fun s X Y row hs hg hr => by
     have hk := grown_kC hg (fun r e => (hr r e).2)
     exact ⟨hs.gp.keep hk, hk.blk hs.res (by simp), ⟨hg.os.trans hs.below.os, hg.tape.trans hs.below.tape, hg.output.trans hs.below.output, Nat.le_trans hs.below.size hg.size, fun k hkk => (hg.block k (by have := hs.below.size; omega) (fun e => by have := (hr k e.symm).1; omega)).trans (hs.below.block k hkk)⟩⟩)
    (fun _ _ _ _ _ hs _ _ => hs)
    HC8.out
    (fun x a' W => ∃ u0 u1 u3 u4 u6 u7 u8 u9 u10 u11 u12 u13 u14 u15 u16 u17 u18 u19 u20 u21 u22 u23 u24 u25 u26 u27 u28 u29 u30 u31 u32 u33 u34 u35 u36 u37 u38 u39 u40 u41 u42 u43 u44 u45 u46 u47 u48 u49 u50 u51 u52 u53 u54 u55 u56 u57 u58 u59 u60 u61 u62 u63 u64 u65 u66 u67 u68 u69 u70 u71 u72 : Value, a' = { tmps := #[u0, u1, .pointer (some ⟨w.heap.size + 1, 0, none⟩), u3, u4, ZI ZQ x.1, u6, u7, u8, u9, u10, u11, u12, u13, u14, u15, u16, u17, u18, u19, u20, u21, u22, u23, u24, u25, u26, u27, u28, u29, u30, u31, u32, u33, u34, u35, u36, u37, u38, u39, u40, u41, u42, u43, u44, u45, u46, u47, u48, u49, u50, u51, u52, u53, u54, u55, u56, u57, u58, u59, u60, u61, u62, u63, u64, u65, u66, u67, u68, u69, u70, u71, u72], defers := [] })
    (fun x a' _ X Y row hs hg hr => hs)
    ?assign ?body ?done ?stop
   case assign =>
    rintro l pre x W K hI hK
    have HI := hide hI
    clear hI
    unfold encG
    gi_wp2
    exact hK _ _ (KeepsFrom.refl _ _) (KeepC.refl _ _) HI.out ⟨_, _, _, _, _, _, _, _, _, _, _, _, _, _, _, _, _, _, _, _, _, _, _, _, _, _, _, _, _, _, _, _, _, _, _, _, _, _, _, _, _, _, _, _, _, _, _, _, _, _, _, _, _, _, _, _, _, _, _, _, _, _, _, _, _, _, _, _, _, _, _, rfl⟩
   case body =>
    rintro l pre x a' W hl ⟨r, hr⟩ hI ⟨u0, u1, u3, u4, u6, u7, u8, u9, u10, u11, u12, u13, u14, u15, u16, u17, u18, u19, u20, u21, u22, u23, u24, u25, u26, u27, u28, u29, u30, u31, u32, u33, u34, u35, u36, u37, u38, u39, u40, u41, u42, u43, u44, u45, u46, u47, u48, u49, u50, u51, u52, u53, u54, u55, u56, u57, u58, u59, u60, u61, u62, u63, u64, u65, u66, u67, u68, u69, u70, u71, u72, rfl⟩ hlt
    have r0 : W.cell? ⟨w.heap.size + 1, 0, none⟩ = some (ZI ZQ 0) := hI.res.cell 0
    have f0 := hI.res.frozen 0
    have HI := hide hI
    clear hI
    by_cases hneg : x.1 < 0
    ·gi_wp2
     exact ⟨(KeepsOthers.setCell _ _ _).from _, x, by simp, hneg⟩
    ·gi_wp2
     exact ⟨KeepsFrom.refl _ _, KeepC.refl _ _, HI.out⟩
   case done =>
    rintro D ys W hD rfl hI hDK
    obtain ⟨x0, x1, x2, x3, x4, x5⟩ := hI.six
    have r0 : W.cell? ⟨w.heap.size + 1, 0, none⟩ = some (ZI ZQ 0) := hI.res.cell 0
    have f0 := hI.res.frozen 0
    have r1 := setCell_same hI.res
    have HRES := hide ((keepC_putObj (S := []) W D _ (.deferred none) hDK rfl).blk hI.res (by simp))
    have HBL := hide (hI.below.trans (belowK_b (w := w) (Nat.le_refl _) W D _ (.deferred none) (by have := hI.below.size; omega) hDK rfl rfl))
    clear hI
    gi_wp2_with fail
    gi_loopg [57] 3 (fun kx s57 wl => ∃ j : Nat, s57 = ZI ZQ j ∧ j ≤ 3 ∧ 3 - j ≤ kx ∧ wl = W)
    case atStart => exact ⟨0, rfl, by omega, by omega, rfl⟩
    case round =>
     obtain ⟨j, rfl, hj, hkx, hwl⟩ := hrel
     subst hwl
     have hj4 : j = 0 ∨ j = 1 ∨ j = 2 ∨ j = 3 := by omega
     rcases hj4 with rfl | rfl | rfl | rfl
     ·have hix := fun V : World => idx3_zero V 0 (by omega)
      simp only [Int.natCast_zero] at *
      have HIX : Hid (∀ V : World, _) := hide hix
      clear hix
      gi_wp2_with fail
      rw [HIX.out]
      simp only [Result.andThen]
      gi_wp2_with fail
      refine ⟨trivial, (isnumber_yes _ _ _ (by omega) (by omega)).mono ?_⟩
      rintro e1 w1 ⟨rfl, rfl⟩
      gi_wp2_with fail
      go_roundg 2
      case rel => exact ⟨1, by go_num, by omega, by omega, rfl⟩
      case measure => omega
     ·have hix := fun V : World => idx3_zero V 1 (by omega)
      simp only [Int.natCast_one] at *
      have HIX : Hid (∀ V : World, _) := hide hix
      clear hix
      gi_wp2_with fail
      rw [HIX.out]
      simp only [Result.andThen]
      gi_wp2_with fail
      refine ⟨trivial, (isnumber_yes _ _ _ (by omega) (by omega)).mono ?_⟩
      rintro e1 w1 ⟨rfl, rfl⟩
      gi_wp2_with fail
      go_roundg 1
      case rel => exact ⟨2, by go_num, by omega, by omega, rfl⟩
      case measure => omega
     ·have hix := fun V : World => idx3_zero V 2 (by omega)
      simp only [show ((2 : Nat) : Int) = 2 from rfl] at *
      have HIX : Hid (∀ V : World, _) := hide hix
      clear hix
      gi_wp2_with fail
      rw [HIX.out]
      simp only [Result.andThen]
      gi_wp2_with fail
      refine ⟨trivial, (isnumber_yes _ _ _ (by omega) (by omega)).mono ?_⟩
      rintro e1 w1 ⟨rfl, rfl⟩
      gi_wp2_with fail
      go_roundg 0
      case rel => exact ⟨3, by go_num, by omega, by omega, rfl⟩
      case measure => omega
     ·simp only [show ((3 : Nat) : Int) = 3 from rfl] at *
      gi_wp2_with fail
      refine ⟨by simp, .inl ⟨_, _, rfl, run_takeDeferred hDK, ?_⟩⟩
      exact ⟨_, chk_results (HRES.out.cell 0) _ rfl, rfl, HBL.out⟩
   case stop =>
    rintro D cd pre W _ hpre ⟨x, hx, hneg⟩ _
    have hm := hpre.subset hx
    unfold gapL at hm
    rw [List.mem_mapIdx] at hm
    obtain ⟨i, hi, rfl⟩ := hm
    have := HOK.out.gap0 i
    dsimp only at hneg
    omega
end Go.Proofs.YtgicljeedegncaaGreat
