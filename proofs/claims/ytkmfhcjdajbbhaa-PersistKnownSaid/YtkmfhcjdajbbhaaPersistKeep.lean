/-
  Layer 10 (package persist): keep, pairs.
-/
import Derived.Test.YtkmfhcjdajbbhaaPersistPairs
import Derived.Laws.EntriesVeiled
namespace Go.Proofs.Ytkmfhcjdajbbhaa
set_option linter.unusedSimpArgs false
set_option linter.unusedVariables false
open Go.RowKit

/-- What is kept, in four cells. -/
structure PerAt (W : World) (B : Nat) (st : Per) : Prop where
  d : Blk W B 3 #[.int .i64 st.d]
  lo : Blk W (B + 1) 3 #[.int .i64 st.lo]
  hi : Blk W (B + 2) 3 #[.int .i64 st.hi]
  some : Blk W (B + 3) 4 #[.bool st.some]
theorem PerAt.below {W W' : World} {B : Nat} {st : Per} (h : PerAt W B st) (hb : Below W.heap.size W W') : PerAt W' B st :=
  ⟨(hb.block _ h.d.lt).trans h.d, (hb.block _ h.lo.lt).trans h.lo, (hb.block _ h.hi.lt).trans h.hi, (hb.block _ h.some.lt).trans h.some⟩
/-- What is kept of a pair, as the program reckons it. -/
def keepW (st : Per) (x : PK × PK) : Per := if !st.some || decide (st.d < wrap64 (x.2.t - x.1.t)) then ⟨wrap64 (x.2.t - x.1.t), x.1.n, x.2.n, true⟩ else st
theorem keepW_fold : ∀ (l : List (PK × PK)) (st : Per), (∀ x ∈ l, PkOk x.1 ∧ PkOk x.2) → l.foldl keepW st = l.foldl keepP st
  | [], _, _ => rfl
  | x :: l, st, h => by
    have e : keepW st x = keepP st x := by
      obtain ⟨⟨_, _, h1, h2⟩, _, _, h3, h4⟩ := h x (by simp)
      have hw : wrap64 (x.2.t - x.1.t) = x.2.t - x.1.t := by unfold wrap64; omega
      unfold keepW keepP
      rw [hw]
    rw [List.foldl_cons, List.foldl_cons, e]
    exact keepW_fold l _ fun y hy => h y (by simp [hy])
/-- The boxes of two packets. -/
def KeepPost (W : World) (B : Nat) (st : Per) (e : Ending) (W' : World) : Prop := (∃ v, e = .returned v) ∧ PerAt W' B st ∧ Only [B, B + 1, B + 2, B + 3] W W'

theorem PerAt.set4 {W : World} {B : Nat} {st : Per} (h : PerAt W B st) (d lo hi : Int) :
    PerAt ((((W.setCell ⟨B, 0, none⟩ (.int .i64 d)).setCell ⟨B + 1, 0, none⟩ (.int .i64 lo)).setCell ⟨B + 2, 0, none⟩ (.int .i64 hi)).setCell ⟨B + 3, 0, none⟩ (.bool true)) B ⟨d, lo, hi, true⟩ :=
  ⟨(((h.d.set 0 _).far (by simp) _).far (by simp) _).far (by simp) _, (((h.lo.far (by simp) _).set 0 _).far (by simp) _).far (by simp) _,
   (((h.hi.far (by simp) _).far (by simp) _).set 0 _).far (by simp) _, (((h.some.far (by simp) _).far (by simp) _).far (by simp) _).set 0 _⟩
theorem only_set4 (W : World) (B : Nat) (v0 v1 v2 v3 : Value) :
    Only [B, B + 1, B + 2, B + 3] W ((((W.setCell ⟨B, 0, none⟩ v0).setCell ⟨B + 1, 0, none⟩ v1).setCell ⟨B + 2, 0, none⟩ v2).setCell ⟨B + 3, 0, none⟩ v3) :=
  ((((only_of_below (Below.refl _ _)).setCell (.inl (by simp)) _).setCell (.inl (by simp)) _).setCell (.inl (by simp)) _).setCell (.inl (by simp)) _

set_option maxRecDepth 100000 in
set_option maxHeartbeats 2000000 in
theorem keep_any (a b : PK) (B : Nat) (st : Per) (w : World) (hP : PerAt w B st) :
    Calls Try.prog 54 #[pkV a, pkV b, .pointer (some ⟨B + 3, 0, none⟩), .pointer (some ⟨B, 0, none⟩), .pointer (some ⟨B + 1, 0, none⟩), .pointer (some ⟨B + 2, 0, none⟩)] w (KeepPost w B (keepW st (a, b))) := by
  obtain ⟨an, at_, as_, ae, af, ac⟩ := a
  obtain ⟨bn, bt, bs, be, bf, bc⟩ := b
  unfold pkV pkC
  dsimp only at *
  have d0 := hP.d.cell 0
  have s0 := hP.some.cell 0
  have f0 := hP.d.frozen 0
  have f1 := hP.lo.frozen 0
  have f2 := hP.hi.frozen 0
  have f3 := hP.some.frozen 0
  have l0 := hP.d.lt
  have l1 := hP.lo.lt
  have l2 := hP.hi.lt
  have l3 := hP.some.lt
  have c1 := hP.lo.cell 0
  have c2 := hP.hi.cell 0
  have HPP := hide hP
  clear hP
  obtain ⟨d, lo, hi, sm⟩ := st
  obtain ⟨D, hD⟩ : ∃ D, wrap64 (bt - at_) = D := ⟨_, rfl⟩
  dsimp only at *
  cases sm with
  | false =>
    have HK : Hid (keepW ⟨d, lo, hi, false⟩ (⟨an, at_, as_, ae, af, ac⟩, ⟨bn, bt, bs, be, bf, bc⟩) = ⟨D, an, bn, true⟩) := by show _ = _; unfold keepW; rw [hD]; rfl
    rw [HK.out]
    go_enter Try.func54, Try.ntmps54
    go_wp2_with fail
    go_region
    go_end0
    exact ⟨⟨_, rfl⟩, (((HPP.out.set4 D an bn).below ((Below.refl _ _).alloc (Nat.le_refl _) _)).below ((Below.refl _ _).alloc (Nat.le_refl _) _)).below (Below.refl _ _).drew, (((only_set4 w B _ _ _ _).alloc _).alloc _).drew⟩
  | true =>
    by_cases hd : d < D
    · have HK : Hid (keepW ⟨d, lo, hi, true⟩ (⟨an, at_, as_, ae, af, ac⟩, ⟨bn, bt, bs, be, bf, bc⟩) = ⟨D, an, bn, true⟩) := by show _ = _; unfold keepW; rw [hD]; simp [hd]
      rw [HK.out]
      go_enter Try.func54, Try.ntmps54
      go_wp2_with fail
      go_region
      go_end0
      exact ⟨⟨_, rfl⟩, (((HPP.out.set4 D an bn).below ((Below.refl _ _).alloc (Nat.le_refl _) _)).below ((Below.refl _ _).alloc (Nat.le_refl _) _)).below (Below.refl _ _).drew, (((only_set4 w B _ _ _ _).alloc _).alloc _).drew⟩
    · have HK : Hid (keepW ⟨d, lo, hi, true⟩ (⟨an, at_, as_, ae, af, ac⟩, ⟨bn, bt, bs, be, bf, bc⟩) = ⟨d, lo, hi, true⟩) := by show _ = _; unfold keepW; rw [hD]; simp [hd]
      rw [HK.out]
      go_enter Try.func54, Try.ntmps54
      go_wp2_with fail
      go_end0
      exact ⟨⟨_, rfl⟩, (HPP.out.below ((Below.refl _ _).alloc (Nat.le_refl _) _)).below ((Below.refl _ _).alloc (Nat.le_refl _) _), ((only_of_below (Below.refl _ _)).alloc _).alloc _⟩

def PairsPost (a : Option Addr) (n cap : Nat) (q : Option Addr) (first : Int) (w : World) (e : Ending) (w' : World) : Prop :=
  ∃ Bc Bg, e = .returned (.func (.func 77) #[] #[.pointer (some ⟨w.heap.size, 0, none⟩), .pointer (some ⟨Bc, 0, none⟩), .pointer (some ⟨Bg, 0, none⟩)]) ∧ Below w.heap.size w w' ∧ w.heap.size ≤ Bc ∧ w.heap.size ≤ Bg ∧
    w'.cell? ⟨w.heap.size, 0, none⟩ = some (.slice a n cap) ∧ w'.cell? ⟨w.heap.size + 1, 0, none⟩ = some (.pointer q) ∧ w'.cell? ⟨w.heap.size + 2, 0, none⟩ = some (.int .i64 first) ∧
    w'.cell? ⟨Bc, 0, none⟩ = some (.func (.func 73) #[] #[.pointer (some ⟨w.heap.size + 2, 0, none⟩)]) ∧
    w'.cell? ⟨Bg, 0, none⟩ = some (.func (.func 74) #[] #[.pointer (some ⟨w.heap.size + 1, 0, none⟩)])
set_option maxHeartbeats 1000000 in
theorem pairs_any (a : Option Addr) (n cap : Nat) (q : Option Addr) (first : Int) (w : World) :
    Calls Try.prog 55 #[.slice a n cap, .pointer q, .int .i64 first] w (PairsPost a n cap q first w) := by
  have b0 : Below w.heap.size w (((w.alloc (.cells #[.slice a n cap] 46)).alloc (.cells #[.pointer q] 23)).alloc (.cells #[.int .i64 first] 3)) := (((Below.refl _ _).alloc (Nat.le_refl _) _).alloc (by simp) _).alloc (by simp; omega) _
  have x0 : Blk (((w.alloc (.cells #[.slice a n cap] 46)).alloc (.cells #[.pointer q] 23)).alloc (.cells #[.int .i64 first] 3)) w.heap.size 46 #[.slice a n cap] := ((Blk.new _ _ _).alloc _).alloc _
  have x1 : Blk (((w.alloc (.cells #[.slice a n cap] 46)).alloc (.cells #[.pointer q] 23)).alloc (.cells #[.int .i64 first] 3)) (w.heap.size + 1) 23 #[.pointer q] := by
    have := (Blk.new (w.alloc (.cells #[.slice a n cap] 46)) 23 #[.pointer q]).alloc (.cells #[.int .i64 first] 3)
    rw [World.size_alloc] at this
    exact this
  have x2 : Blk (((w.alloc (.cells #[.slice a n cap] 46)).alloc (.cells #[.pointer q] 23)).alloc (.cells #[.int .i64 first] 3)) (w.heap.size + 2) 3 #[.int .i64 first] := by
    have := Blk.new ((w.alloc (.cells #[.slice a n cap] 46)).alloc (.cells #[.pointer q] 23)) 3 #[.int .i64 first]
    simp only [World.size_alloc] at this
    exact this
  have s0 : (((w.alloc (.cells #[.slice a n cap] 46)).alloc (.cells #[.pointer q] 23)).alloc (.cells #[.int .i64 first] 3)).heap.size = w.heap.size + 3 := by simp only [World.size_alloc]
  have B0 := hide b0
  have X0 := hide x0
  have X1 := hide x1
  have X2 := hide x2
  have S0 := hide s0
  clear b0 x0 x1 x2 s0
  go_enter Try.func55, Try.ntmps55
  go_upto_region 1 with (fail)
  rw [show w.heap.size + 1 + 1 = w.heap.size + 2 from rfl]
  obtain ⟨W1, hW1⟩ : ∃ W1, ((w.alloc (.cells #[.slice a n cap] 46)).alloc (.cells #[.pointer q] 23)).alloc (.cells #[.int .i64 first] 3) = W1 := ⟨_, rfl⟩
  rw [hW1] at B0 X0 X1 X2 S0 ⊢
  clear hW1
  go_wp2_with fail

  go_ret
  have hb2 : Below W1.heap.size W1 ((W1.alloc (.cells #[.func (.func 73) #[] #[.pointer (some ⟨w.heap.size + 2, 0, none⟩)]] 105)).alloc (.cells #[.func (.func 74) #[] #[.pointer (some ⟨w.heap.size + 1, 0, none⟩)]] 108)) := ((Below.refl _ _).alloc (Nat.le_refl _) _).alloc (by simp) _
  have y1 := (Blk.new W1 105 #[.func (.func 73) #[] #[.pointer (some ⟨w.heap.size + 2, 0, none⟩)]]).alloc (.cells #[.func (.func 74) #[] #[.pointer (some ⟨w.heap.size + 1, 0, none⟩)]] 108)
  have y2 := Blk.new (W1.alloc (.cells #[.func (.func 73) #[] #[.pointer (some ⟨w.heap.size + 2, 0, none⟩)]] 105)) 108 #[.func (.func 74) #[] #[.pointer (some ⟨w.heap.size + 1, 0, none⟩)]]
  rw [World.size_alloc] at y2
  have hs := S0.out
  exact ⟨W1.heap.size, W1.heap.size + 1, rfl, bw_below' B0.out hb2, by omega, by omega, (hb2.cell (p := ⟨_, 0, none⟩) X0.out.lt).trans (X0.out.cell 0), (hb2.cell (p := ⟨_, 0, none⟩) X1.out.lt).trans (X1.out.cell 0), (hb2.cell (p := ⟨_, 0, none⟩) X2.out.lt).trans (X2.out.cell 0), y1.cell 0, y2.cell 0⟩
end Go.Proofs.Ytkmfhcjdajbbhaa
