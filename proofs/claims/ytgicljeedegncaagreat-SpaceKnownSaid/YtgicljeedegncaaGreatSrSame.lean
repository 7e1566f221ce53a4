/-
 sounderref09.Same, where both rows hold the same packets, and 'same', where both spaces say the same. Printed by wip/gensrsame.py.
-/
import Derived.Test.YtgicljeedegncaaGreatSrSpE
namespace Go.Proofs.YtgicljeedegncaaGreat
open List renaming getElem_toArray → ZA, getElem_cons_zero → ZB, getElem_cons_succ → ZC, setIfInBounds_toArray → ZD, set_cons_zero → ZE, set_cons_succ → ZF
open Go.AllReadyH renaming cons → ZS, nil → ZN
open Go.Act renaming put → ZP
open Go.Value renaming int → ZI
open Go.IntKind renaming i64 → ZQ
set_option linter.unusedSimpArgs false
set_option linter.unusedVariables false
open Go.RowKit

set_option maxHeartbeats 2000000 in
theorem r09same_any (a a2 : Option Addr) (n c c2 : Nat) (qs : List PK) (w : World) (hn : qs.length = n) (hl : n ≤ 1000000) (hP : PksAt w a qs) (hP2 : PksAt w a2 qs) :
  Calls Tryz.prog 39 #[.slice a n c, .slice a2 n c2] w fun e w' => e = .returned (.bool true) ∧ Below w.heap.size w w' := by
 have HP := hide hP
 have HP2 := hide hP2
 have HN := hide hn
 clear hP hP2 hn
 go_enter Tryz.func39, Tryz.ntmps39
 go_wp2
 go_loopw [5] (fun s5 wr => ∃ k m : Nat, s5 = ZI ZQ k ∧ k ≤ n ∧ wr = w.drewN m) (fun i _ => n - (intOf i).toNat)
 case atStart => exact ⟨0, 0, rfl, Nat.zero_le _, rfl⟩
 case round =>
  obtain ⟨k, m, rfl, hk, rfl⟩ := hrel
  by_cases hlt : k < n
  ·obtain ⟨q, hq⟩ : ∃ q, qs[k]? = some q := ⟨_, List.getElem?_eq_getElem (by rw [HN.out]; exact hlt)⟩
   obtain ⟨ka, oa, rfl, hka, a0, a1, a2, a3, a4, a5⟩ := HP.out.cells hq
   obtain ⟨kb, ob, rfl, hkb, b0, b1, b2, b3, b4, b5⟩ := HP2.out.cells hq
   clear hq
   have hki : (k : Int) < (n : Int) := by omega
   have hk0 : (0 : Int) ≤ (k : Int) := by omega
   go_wp2
   go_quiet (fail)
   go_wp2
   go_roundw
   case rel => exact ⟨k + 1, _, by go_num, by omega, rfl⟩
   case measure => simp [intOf]; omega
  ·obtain rfl : k = n := by omega
   go_wp2
   go_ret
   exact ⟨rfl, below_drewN (Below.refl _ _) m⟩
/-- A call's cells. -/
def doC (kd nw : Int) (p : Pk) (ak : AK) (a : Option Addr) (la c : Nat) (r : RT) : Array Value := #[ZI ZQ kd, ZI ZQ nw, ZI ZQ p.num, ZI ZQ p.time, ZI ZQ p.size, .bool p.el, .bool p.fl, .bool p.ect, ZI ZQ ak.delay, .slice a la c, .bool ak.marked, ZI ZQ ak.e0, ZI ZQ ak.e1, ZI ZQ ak.e2, ZI ZQ r.latest, ZI ZQ r.min, ZI ZQ r.smooth, ZI ZQ r.var, ZI ZQ r.first]
/-- What 'same' reads. -/
def SmC (W : World) (d : Dt) (s : SpSt) (X : Nat) (nw : Int) (p : Pk) (r : RT) : Prop :=
 W.cell? ⟨d.m, 0, none⟩ = some (.pointer (some ⟨d.lb, 0, none⟩)) ∧ W.cell? ⟨d.m, 3, none⟩ = some (ZI ZQ s.great) ∧ W.cell? ⟨d.m, 4, none⟩ = some (ZI ZQ s.loss) ∧ W.cell? ⟨d.m, 5, none⟩ = some (ZI ZQ s.time) ∧ W.cell? ⟨d.lb, 1, none⟩ = some (ZI ZQ s.last) ∧
 W.cell? ⟨X, 1, none⟩ = some (ZI ZQ nw) ∧ W.cell? ⟨X, 2, none⟩ = some (ZI ZQ p.num) ∧ W.cell? ⟨X, 3, none⟩ = some (ZI ZQ p.time) ∧ W.cell? ⟨X, 4, none⟩ = some (ZI ZQ p.size) ∧ W.cell? ⟨X, 5, none⟩ = some (.bool p.el) ∧ W.cell? ⟨X, 6, none⟩ = some (.bool p.fl) ∧ W.cell? ⟨X, 7, none⟩ = some (.bool p.ect) ∧
 W.cell? ⟨X, 14, none⟩ = some (ZI ZQ r.latest) ∧ W.cell? ⟨X, 15, none⟩ = some (ZI ZQ r.min) ∧ W.cell? ⟨X, 16, none⟩ = some (ZI ZQ r.smooth) ∧ W.cell? ⟨X, 17, none⟩ = some (ZI ZQ r.var) ∧ W.cell? ⟨X, 18, none⟩ = some (ZI ZQ r.first)
structure SmAt (W0 W : World) (f : Ft) (d : Dt) (s : SpSt) (X : Nat) (D : Array Value) : Prop where
 sp : IsSp W f s
 rs : IsRs W d s
 box : Blk W X 67 D
 below : Below W0.heap.size W0 W
section
variable {W0 W W' : World} {f : Ft} {d : Dt} {s : SpSt} {X : Nat} {D : Array Value}
theorem SmAt.later (h : SmAt W0 W f d s X D) (hb : Below W.heap.size W W') : SmAt W0 W' f d s X D := ⟨h.sp.below hb, h.rs.below hb, (hb.block _ h.box.lt).trans h.box, bw_below' h.below hb⟩
theorem SmAt.drew (h : SmAt W0 W f d s X D) : SmAt W0 W.drew f d s X D := h.later (Below.refl _ _).drew
theorem SmAt.cells {kd nw : Int} {p : Pk} {ak : AK} {a : Option Addr} {la c : Nat} {r : RT} (h : SmAt W0 W f d s X (doC kd nw p ak a la c r)) : SmC W d s X nw p r := by
 have hc := h.rs.six
 obtain ⟨_, _, v, hB, _⟩ := h.rs.log
 have hx := h.box
 exact ⟨hc.1, hc.2.2.2.1, hc.2.2.2.2.1, hc.2.2.2.2.2, hB.cell 1, hx.cell 1, hx.cell 2, hx.cell 3, hx.cell 4, hx.cell 5, hx.cell 6, hx.cell 7, hx.cell 14, hx.cell 15, hx.cell 16, hx.cell 17, hx.cell 18⟩
end
/-- The two packets that 'same' lays. -/
def litQ (nw : Int) : List PK := [⟨1, nw, 1, true, false, false⟩, ⟨5, 1125899906842624, 1, true, false, false⟩]
def litC (nw : Int) : Array Value := #[ZI ZQ 1, ZI ZQ nw, ZI ZQ 1, .bool true, .bool false, .bool false, ZI ZQ 5, ZI ZQ 1125899906842624, ZI ZQ 1, .bool true, .bool false, .bool false]
def LitAt (W : World) (k : Nat) (nw : Int) : Prop := PksAt W (some ⟨k, 0, none⟩) (litQ nw) ∧ ∀ j o, some (⟨k, 0, none⟩ : Addr) = some ⟨j, o, none⟩ → j < W.heap.size
theorem LitAt.later {W W' : World} {k : Nat} {nw : Int} (h : LitAt W k nw) (hb : Below W.heap.size W W') : LitAt W' k nw := ⟨h.1.below hb (Nat.le_refl _), fun j o e => Nat.lt_of_lt_of_le (h.2 j o e) hb.size⟩
theorem lit_at {W : World} {k : Nat} {nw : Int} (h : Blk W k 40 (litC nw)) (hnw : -9223372036854775808 ≤ nw ∧ nw ≤ 9223372036854775807) : LitAt W k nw := by
 refine ⟨⟨?_, ?_⟩, fun j o e => by cases e; exact h.lt⟩
 ·intro p hp
  simp only [litQ, List.mem_cons, List.not_mem_nil, or_false] at hp
  rcases hp with rfl | rfl <;> (unfold PK.small; dsimp only; omega)
 ·intro i p hi
  refine ⟨k, 0, rfl, h.lt, fun j v hj => ?_⟩
  rcases i with _ | _ | i
  ·cases hi
   rcases j with _ | _ | _ | _ | _ | _ | j
   all_goals first | (cases hj; done) | skip
   all_goals first | (rw [← hj]; exact h.cell _) | (simp [pkC] at hj)
  ·cases hi
   rcases j with _ | _ | _ | _ | _ | _ | j
   all_goals first | (rw [← hj]; exact h.cell _) | (simp [pkC] at hj)
  ·simp [litQ] at hi
theorem lit_new {W : World} {k : Nat} {nw : Int} (hk : k = W.heap.size) (hnw : -9223372036854775808 ≤ nw ∧ nw ≤ 9223372036854775807) : LitAt (W.alloc (.cells (litC nw) 40)) k nw := lit_at (blk_new_at hk) hnw
structure SnAt (W0 W : World) (f : Ft) (d : Dt) (s : SpSt) (X : Nat) (D : Array Value) (a : Option Addr) (qs : List PK) : Prop where
 sm : SmAt W0 W f d s X D
 row : PksAt W a qs
 lt : ∀ k o, a = some ⟨k, o, none⟩ → k < W.heap.size
theorem SnAt.later {W0 W W' : World} {f : Ft} {d : Dt} {s : SpSt} {X : Nat} {D : Array Value} {a : Option Addr} {qs : List PK} (h : SnAt W0 W f d s X D a qs) (hb : Below W.heap.size W W') : SnAt W0 W' f d s X D a qs :=
 ⟨h.sm.later hb, h.row.below hb (Nat.le_refl _), fun k o e => Nat.lt_of_lt_of_le (h.lt k o e) hb.size⟩
set_option maxRecDepth 100000 in
set_option maxHeartbeats 8000000 in
theorem spsame_any (f : Ft) (d : Dt) (s : SpSt) (kd nw : Int) (p : Pk) (ak : AK) (a : Option Addr) (la c : Nat) (r : RT) (mc : Int) (w : World) (h : IsSp w f s) (hd : IsRs w d s) (hm : MayC s p mc) (hnw : -9223372036854775808 ≤ nw ∧ nw ≤ 9223372036854775807) (hsm : -9223372036854775808 ≤ r.smooth ∧ r.smooth ≤ 9223372036854775807) :
  Calls Tryz.prog 40 #[.pointer (some ⟨f.b, 0, none⟩), .pointer (some ⟨d.m, 0, none⟩), .agg (doC kd nw p ak a la c r)] w fun e w' => e = .returned (.bool true) ∧ Below w.heap.size w w' := by
 have hb0 : Below w.heap.size w (w.alloc (.cells (doC kd nw p ak a la c r) 67)) := (Below.refl _ _).alloc (Nat.le_refl _) _
 have h1 : SmAt w (w.alloc (.cells (doC kd nw p ak a la c r) 67)) f d s w.heap.size (doC kd nw p ak a la c r) := ⟨h.below hb0, hd.below hb0, Blk.new _ _ _, hb0⟩
 have HMAY := hide h.log.may
 have HRM := hide h.log.room
 have HM := hide hm
 obtain ⟨X, hX⟩ : ∃ X, w.heap.size = X := ⟨_, rfl⟩
 rw [hX] at h1
 have HX := hide hX
 have HQ0 := hide h1
 clear h hd hm hb0 hX
 obtain ⟨m0, m3, m4, m5, l1, x1, x2, x3, x4, x5, x6, x7, x14, x15, x16, x17, x18⟩ := h1.cells
 clear h1
 unfold doC
 go_enter Tryz.func40, Tryz.ntmps40
 go_upto_region 1 with (fail)
 try rw [HX.out]
 have HQD := hide HQ0.out.drew
 refine wp_region_held_drew (S := (fun w' => SmC w' d s X nw p r)) (by kernel_rfl) (by exact HQD.out.cells) (fun hHeld => ?_)
 simp only [List.append_eq, List.cons_append, List.nil_append]
 refine tkP 0 ?_ rfl ?_ ?_
 rotate_left
 ·intro w' hSw; (try dsimp only at hSw); go_simp; try with_reducible rfl
 try simp only [ZP, ZA, ZB, ZC, ZD, ZE, ZF]
 refine tkP 2 ?_ rfl ?_ ?_
 rotate_left
 ·intro w' hSw; (try dsimp only at hSw); go_simp; try with_reducible rfl
 try simp only [ZP, ZA, ZB, ZC, ZD, ZE, ZF]
 refine tkP 3 ?_ rfl ?_ ?_
 rotate_left
 ·intro w' hSw; (try dsimp only at hSw); go_simp; try with_reducible rfl
 try simp only [ZP, ZA, ZB, ZC, ZD, ZE, ZF]
 refine tkP 4 ?_ rfl ?_ ?_
 rotate_left
 ·intro w' hSw; (try dsimp only at hSw); go_simp; try with_reducible rfl
 try simp only [ZP, ZA, ZB, ZC, ZD, ZE, ZF]
 refine tkP 5 ?_ rfl ?_ ?_
 rotate_left
 ·intro w' hSw; (try dsimp only at hSw); obtain ⟨m0, m3, m4, m5, l1, x1, x2, x3, x4, x5, x6, x7, x14, x15, x16, x17, x18⟩ := hSw; go_simp; try with_reducible rfl
 try simp only [ZP, ZA, ZB, ZC, ZD, ZE, ZF]
 refine tkP 6 ?_ rfl ?_ ?_
 rotate_left
 ·intro w' hSw; (try dsimp only at hSw); go_simp; try with_reducible rfl
 try simp only [ZP, ZA, ZB, ZC, ZD, ZE, ZF]
 refine tkP 7 ?_ rfl ?_ ?_
 rotate_left
 ·intro w' hSw; (try dsimp only at hSw); go_simp; try with_reducible rfl
 try simp only [ZP, ZA, ZB, ZC, ZD, ZE, ZF]
 refine tkP 8 ?_ rfl ?_ ?_
 rotate_left
 ·intro w' hSw; (try dsimp only at hSw); obtain ⟨m0, m3, m4, m5, l1, x1, x2, x3, x4, x5, x6, x7, x14, x15, x16, x17, x18⟩ := hSw; go_simp; try with_reducible rfl
 try simp only [ZP, ZA, ZB, ZC, ZD, ZE, ZF]
 refine tkR [1] ?_
 refine ZS rfl (fun K hK => ?_) ZN
 go_simp; go_at_call 20; refine (splast_any f s _ HQD.out.sp).mono ?_; rintro e1 w1 ⟨rfl, hb1⟩
 have HQ1 := hide (HQD.out.later hb1)
 clear hb1 hHeld
 refine hK.out _ _ (HQ1.out.cells) (fun hHeld => ?_)
 clear hK K
 try simp only [ZP, ZA, ZB, ZC, ZD, ZE, ZF]
 refine tkP 9 ?_ rfl ?_ ?_
 rotate_left
 ·intro w' hSw; (try dsimp only at hSw); go_simp; try with_reducible rfl
 try simp only [ZP, ZA, ZB, ZC, ZD, ZE, ZF]
 refine tkP 10 ?_ rfl ?_ ?_
 rotate_left
 ·intro w' hSw; (try dsimp only at hSw); go_simp; try with_reducible rfl
 try simp only [ZP, ZA, ZB, ZC, ZD, ZE, ZF]
 refine tkP 11 ?_ rfl ?_ ?_
 rotate_left
 ·intro w' hSw; (try dsimp only at hSw); go_simp; try with_reducible rfl
 try simp only [ZP, ZA, ZB, ZC, ZD, ZE, ZF]
 refine tkP 13 ?_ rfl ?_ ?_
 rotate_left
 ·intro w' hSw; (try dsimp only at hSw); go_simp; try with_reducible rfl
 try simp only [ZP, ZA, ZB, ZC, ZD, ZE, ZF]
 refine tkP 14 ?_ rfl ?_ ?_
 rotate_left
 ·intro w' hSw; (try dsimp only at hSw); go_simp; try with_reducible rfl
 try simp only [ZP, ZA, ZB, ZC, ZD, ZE, ZF]
 refine tkP 15 ?_ rfl ?_ ?_
 rotate_left
 ·intro w' hSw; (try dsimp only at hSw); go_simp; try with_reducible rfl
 try simp only [ZP, ZA, ZB, ZC, ZD, ZE, ZF]
 refine tkP 16 ?_ rfl ?_ ?_
 rotate_left
 ·intro w' hSw; (try dsimp only at hSw); obtain ⟨m0, m3, m4, m5, l1, x1, x2, x3, x4, x5, x6, x7, x14, x15, x16, x17, x18⟩ := hSw; go_simp; try with_reducible rfl
 try simp only [ZP, ZA, ZB, ZC, ZD, ZE, ZF]
 refine tkR [12] ?_
 refine ZS rfl (fun K hK => ?_) ZN
 go_simp; go_at_call 13; refine (spgreat_any f s _ HQ1.out.sp).mono ?_; rintro e2 w2 ⟨rfl, hb2⟩
 have HQ2 := hide (HQ1.out.later hb2)
 clear hb2 hHeld
 refine hK.out _ _ (HQ2.out.cells) (fun hHeld => ?_)
 clear hK K
 try simp only [ZP, ZA, ZB, ZC, ZD, ZE, ZF]
 refine tkP 17 ?_ rfl ?_ ?_
 rotate_left
 ·intro w' hSw; (try dsimp only at hSw); go_simp; try with_reducible rfl
 try simp only [ZP, ZA, ZB, ZC, ZD, ZE, ZF]
 refine tkP 18 ?_ rfl ?_ ?_
 rotate_left
 ·intro w' hSw; (try dsimp only at hSw); go_simp; try with_reducible rfl
 try simp only [ZP, ZA, ZB, ZC, ZD, ZE, ZF]
 refine tkP 19 ?_ rfl ?_ ?_
 rotate_left
 ·intro w' hSw; (try dsimp only at hSw); go_simp; try with_reducible rfl
 try simp only [ZP, ZA, ZB, ZC, ZD, ZE, ZF]
 refine tkP 20 ?_ rfl ?_ ?_
 rotate_left
 ·intro w' hSw; (try dsimp only at hSw); go_simp; try with_reducible rfl
 try simp only [ZP, ZA, ZB, ZC, ZD, ZE, ZF]
 refine tkP 22 ?_ rfl ?_ ?_
 rotate_left
 ·intro w' hSw; (try dsimp only at hSw); go_simp; try with_reducible rfl
 try simp only [ZP, ZA, ZB, ZC, ZD, ZE, ZF]
 refine tkP 23 ?_ rfl ?_ ?_
 rotate_left
 ·intro w' hSw; (try dsimp only at hSw); go_simp; try with_reducible rfl
 try simp only [ZP, ZA, ZB, ZC, ZD, ZE, ZF]
 refine tkP 24 ?_ rfl ?_ ?_
 rotate_left
 ·intro w' hSw; (try dsimp only at hSw); go_simp; try with_reducible rfl
 try simp only [ZP, ZA, ZB, ZC, ZD, ZE, ZF]
 refine tkP 25 ?_ rfl ?_ ?_
 rotate_left
 ·intro w' hSw; (try dsimp only at hSw); obtain ⟨m0, m3, m4, m5, l1, x1, x2, x3, x4, x5, x6, x7, x14, x15, x16, x17, x18⟩ := hSw; go_simp; try with_reducible rfl
 try simp only [ZP, ZA, ZB, ZC, ZD, ZE, ZF]
 refine tkR [21] ?_
 refine ZS rfl (fun K hK => ?_) ZN
 go_simp; go_at_call 15; refine (sploss_any f s _ HQ2.out.sp).mono ?_; rintro e3 w3 ⟨rfl, hb3⟩
 have HQ3 := hide (HQ2.out.later hb3)
 clear hb3 hHeld
 refine hK.out _ _ (HQ3.out.cells) (fun hHeld => ?_)
 clear hK K
 try simp only [ZP, ZA, ZB, ZC, ZD, ZE, ZF]
 refine tkP 26 ?_ rfl ?_ ?_
 rotate_left
 ·intro w' hSw; (try dsimp only at hSw); go_simp; try with_reducible rfl
 try simp only [ZP, ZA, ZB, ZC, ZD, ZE, ZF]
 refine tkP 27 ?_ rfl ?_ ?_
 rotate_left
 ·intro w' hSw; (try dsimp only at hSw); go_simp; try with_reducible rfl
 try simp only [ZP, ZA, ZB, ZC, ZD, ZE, ZF]
 refine tkP 28 ?_ rfl ?_ ?_
 rotate_left
 ·intro w' hSw; (try dsimp only at hSw); go_simp; try with_reducible rfl
 try simp only [ZP, ZA, ZB, ZC, ZD, ZE, ZF]
 refine tkP 29 ?_ rfl ?_ ?_
 rotate_left
 ·intro w' hSw; (try dsimp only at hSw); go_simp; try with_reducible rfl
 try simp only [ZP, ZA, ZB, ZC, ZD, ZE, ZF]
 refine tkP 31 ?_ rfl ?_ ?_
 rotate_left
 ·intro w' hSw; (try dsimp only at hSw); go_simp; try with_reducible rfl
 try simp only [ZP, ZA, ZB, ZC, ZD, ZE, ZF]
 refine tkP 32 ?_ rfl ?_ ?_
 rotate_left
 ·intro w' hSw; (try dsimp only at hSw); go_simp; try with_reducible rfl
 try simp only [ZP, ZA, ZB, ZC, ZD, ZE, ZF]
 refine tkP 33 ?_ rfl ?_ ?_
 rotate_left
 ·intro w' hSw; (try dsimp only at hSw); go_simp; try with_reducible rfl
 try simp only [ZP, ZA, ZB, ZC, ZD, ZE, ZF]
 refine tkP 34 ?_ rfl ?_ ?_
 rotate_left
 ·intro w' hSw; (try dsimp only at hSw); obtain ⟨m0, m3, m4, m5, l1, x1, x2, x3, x4, x5, x6, x7, x14, x15, x16, x17, x18⟩ := hSw; go_simp; try with_reducible rfl
 try simp only [ZP, ZA, ZB, ZC, ZD, ZE, ZF]
 refine tkR [30] ?_
 refine ZS rfl (fun K hK => ?_) ZN
 go_simp; go_at_call 30; refine (sptime_any f s _ HQ3.out.sp).mono ?_; rintro e4 w4 ⟨rfl, hb4⟩
 have HQ4 := hide (HQ3.out.later hb4)
 clear hb4 hHeld
 refine hK.out _ _ (HQ4.out.cells) (fun hHeld => ?_)
 clear hK K
 try simp only [ZP, ZA, ZB, ZC, ZD, ZE, ZF]
 refine tkP 35 ?_ rfl ?_ ?_
 rotate_left
 ·intro w' hSw; (try dsimp only at hSw); go_simp; try with_reducible rfl
 try simp only [ZP, ZA, ZB, ZC, ZD, ZE, ZF]
 refine tkP 36 ?_ rfl ?_ ?_
 rotate_left
 ·intro w' hSw; (try dsimp only at hSw); go_simp; try with_reducible rfl
 try simp only [ZP, ZA, ZB, ZC, ZD, ZE, ZF]
 refine tkP 37 ?_ rfl ?_ ?_
 rotate_left
 ·intro w' hSw; (try dsimp only at hSw); go_simp; try with_reducible rfl
 try simp only [ZP, ZA, ZB, ZC, ZD, ZE, ZF]
 refine tkP 38 ?_ rfl ?_ ?_
 rotate_left
 ·intro w' hSw; (try dsimp only at hSw); go_simp; try with_reducible rfl
 try simp only [ZP, ZA, ZB, ZC, ZD, ZE, ZF]
 refine tkP 40 ?_ rfl ?_ ?_
 rotate_left
 ·intro w' hSw; (try dsimp only at hSw); go_simp; try with_reducible rfl
 try simp only [ZP, ZA, ZB, ZC, ZD, ZE, ZF]
 refine tkP 41 ?_ rfl ?_ ?_
 rotate_left
 ·intro w' hSw; (try dsimp only at hSw); go_simp; try with_reducible rfl
 try simp only [ZP, ZA, ZB, ZC, ZD, ZE, ZF]
 refine tkP 42 ?_ rfl ?_ ?_
 rotate_left
 ·intro w' hSw; (try dsimp only at hSw); go_simp; try with_reducible rfl
 try simp only [ZP, ZA, ZB, ZC, ZD, ZE, ZF]
 refine tkP 43 ?_ rfl ?_ ?_
 rotate_left
 ·intro w' hSw; (try dsimp only at hSw); obtain ⟨m0, m3, m4, m5, l1, x1, x2, x3, x4, x5, x6, x7, x14, x15, x16, x17, x18⟩ := hSw; go_simp; try with_reducible rfl
 try simp only [ZP, ZA, ZB, ZC, ZD, ZE, ZF]
 refine tkR [39] ?_
 refine ZS rfl (fun K hK => ?_) ZN
 go_simp; go_at_call 27; refine (spflight_any f s _ HQ4.out.sp).mono ?_; rintro e5 w5 ⟨rfl, hb5⟩
 have HQ5 := hide (HQ4.out.later hb5)
 clear hb5 hHeld
 refine hK.out _ _ (HQ5.out.cells) (fun hHeld => ?_)
 clear hK K
 try simp only [ZP, ZA, ZB, ZC, ZD, ZE, ZF]
 refine tkR [44] ?_
 refine ZS rfl (fun K hK => ?_) ZN
 go_simp; go_at_call 87; refine (rflight_any _ _ _ _ _ HQ5.out.rs.log HMAY.out).mono ?_; rintro e6 w6 ⟨rfl, rfl⟩
 have HQ6 := HQ5
 clear hHeld
 refine hK.out _ _ (HQ6.out.cells) (fun hHeld => ?_)
 clear hK K
 try simp only [ZP, ZA, ZB, ZC, ZD, ZE, ZF]
 refine tkP 45 ?_ rfl ?_ ?_
 rotate_left
 ·intro w' hSw; (try dsimp only at hSw); go_simp; try with_reducible rfl
 try simp only [ZP, ZA, ZB, ZC, ZD, ZE, ZF]
 refine tkP 46 ?_ rfl ?_ ?_
 rotate_left
 ·intro w' hSw; (try dsimp only at hSw); go_simp; try with_reducible rfl
 try simp only [ZP, ZA, ZB, ZC, ZD, ZE, ZF]
 refine tkP 47 ?_ rfl ?_ ?_
 rotate_left
 ·intro w' hSw; (try dsimp only at hSw); go_simp; try with_reducible rfl
 try simp only [ZP, ZA, ZB, ZC, ZD, ZE, ZF]
 refine tkP 48 ?_ rfl ?_ ?_
 rotate_left
 ·intro w' hSw; (try dsimp only at hSw); go_simp; try with_reducible rfl
 try simp only [ZP, ZA, ZB, ZC, ZD, ZE, ZF]
 refine tkP 50 ?_ rfl ?_ ?_
 rotate_left
 ·intro w' hSw; (try dsimp only at hSw); go_simp; try with_reducible rfl
 try simp only [ZP, ZA, ZB, ZC, ZD, ZE, ZF]
 refine tkP 51 ?_ rfl ?_ ?_
 rotate_left
 ·intro w' hSw; (try dsimp only at hSw); go_simp; try with_reducible rfl
 try simp only [ZP, ZA, ZB, ZC, ZD, ZE, ZF]
 refine tkP 52 ?_ rfl ?_ ?_
 rotate_left
 ·intro w' hSw; (try dsimp only at hSw); go_simp; try with_reducible rfl
 try simp only [ZP, ZA, ZB, ZC, ZD, ZE, ZF]
 refine tkP 53 ?_ rfl ?_ ?_
 rotate_left
 ·intro w' hSw; (try dsimp only at hSw); obtain ⟨m0, m3, m4, m5, l1, x1, x2, x3, x4, x5, x6, x7, x14, x15, x16, x17, x18⟩ := hSw; go_simp; try with_reducible rfl
 try simp only [ZP, ZA, ZB, ZC, ZD, ZE, ZF]
 refine tkR [49] ?_
 refine ZS rfl (fun K hK => ?_) ZN
 go_simp; go_at_call 28; refine (spelic_any f s _ HQ6.out.sp).mono ?_; rintro e7 w7 ⟨rfl, hb7⟩
 have HQ7 := hide (HQ6.out.later hb7)
 clear hb7 hHeld
 refine hK.out _ _ (HQ7.out.cells) (fun hHeld => ?_)
 clear hK K
 try simp only [ZP, ZA, ZB, ZC, ZD, ZE, ZF]
 refine tkR [54] ?_
 refine ZS rfl (fun K hK => ?_) ZN
 go_simp; go_at_call 88; refine (relic_any _ _ _ _ _ HQ7.out.rs.log).mono ?_; rintro e8 w8 ⟨rfl, rfl⟩
 have HQ8 := HQ7
 clear hHeld
 refine hK.out _ _ (HQ8.out.cells) (fun hHeld => ?_)
 clear hK K
 try simp only [ZP, ZA, ZB, ZC, ZD, ZE, ZF]
 refine tkP 55 ?_ rfl ?_ ?_
 rotate_left
 ·intro w' hSw; (try dsimp only at hSw); go_simp; try with_reducible rfl
 try simp only [ZP, ZA, ZB, ZC, ZD, ZE, ZF]
 refine tkP 56 ?_ rfl ?_ ?_
 rotate_left
 ·intro w' hSw; (try dsimp only at hSw); go_simp; try with_reducible rfl
 try simp only [ZP, ZA, ZB, ZC, ZD, ZE, ZF]
 refine tkP 57 ?_ rfl ?_ ?_
 rotate_left
 ·intro w' hSw; (try dsimp only at hSw); go_simp; try with_reducible rfl
 try simp only [ZP, ZA, ZB, ZC, ZD, ZE, ZF]
 refine tkP 58 ?_ rfl ?_ ?_
 rotate_left
 ·intro w' hSw; (try dsimp only at hSw); go_simp; try with_reducible rfl
 try simp only [ZP, ZA, ZB, ZC, ZD, ZE, ZF]
 refine tkP 60 ?_ rfl ?_ ?_
 rotate_left
 ·intro w' hSw; (try dsimp only at hSw); go_simp; try with_reducible rfl
 try simp only [ZP, ZA, ZB, ZC, ZD, ZE, ZF]
 refine tkP 61 ?_ rfl ?_ ?_
 rotate_left
 ·intro w' hSw; (try dsimp only at hSw); go_simp; try with_reducible rfl
 try simp only [ZP, ZA, ZB, ZC, ZD, ZE, ZF]
 refine tkP 62 ?_ rfl ?_ ?_
 rotate_left
 ·intro w' hSw; (try dsimp only at hSw); go_simp; try with_reducible rfl
 try simp only [ZP, ZA, ZB, ZC, ZD, ZE, ZF]
 refine tkP 63 ?_ rfl ?_ ?_
 rotate_left
 ·intro w' hSw; (try dsimp only at hSw); obtain ⟨m0, m3, m4, m5, l1, x1, x2, x3, x4, x5, x6, x7, x14, x15, x16, x17, x18⟩ := hSw; go_simp; try with_reducible rfl
 try simp only [ZP, ZA, ZB, ZC, ZD, ZE, ZF]
 refine tkR [59] ?_
 refine ZS rfl (fun K hK => ?_) ZN
 go_simp; go_at_call 14; refine (spall_any f s _ HQ8.out.sp).mono ?_; rintro e9 w9 ⟨v9, rfl, hv9, hb9⟩
 obtain ⟨aa1, cc1, rfl⟩ := own_slice' hv9
 rw [← pkcs_toPK] at hv9
 have HP1 := hide (own_pk3 (by simp) hv9 (fun p hp => by obtain ⟨q, hq, rfl⟩ := List.mem_map.1 hp; exact toPK_small (HMAY.out q hq))).1
 have HQ9 := hide (HQ8.out.later hb9)
 clear hv9 hb9 hHeld
 refine hK.out _ _ (HQ9.out.cells) (fun hHeld => ?_)
 clear hK K
 try simp only [ZP, ZA, ZB, ZC, ZD, ZE, ZF]
 refine tkR [64] ?_
 refine ZS rfl (fun K hK => ?_) ZN
 go_simp; go_at_call 80; refine (rall_any _ _ _ _ _ HQ9.out.rs.log).mono ?_; rintro e10 w10 ⟨v10, rfl, hv10, hb10⟩
 obtain ⟨aa2, cc2, rfl⟩ := own_slice' hv10
 rw [← pkcs_toPK] at hv10
 have HP2 := hide (own_pk3 (by simp) hv10 (fun p hp => by obtain ⟨q, hq, rfl⟩ := List.mem_map.1 hp; exact toPK_small (HMAY.out q hq))).1
 have HQ10 := hide (HQ9.out.later hb10)
 have HP1 := hide (HP1.out.below hb10 (Nat.le_refl _))
 clear hv10 hb10 hHeld
 refine hK.out _ _ (HQ10.out.cells) (fun hHeld => ?_)
 clear hK K
 try simp only [ZP, ZA, ZB, ZC, ZD, ZE, ZF]
 refine tkR [65] ?_
 refine ZS rfl (fun K hK => ?_) ZN
 go_simp; go_at_call 39; refine (r09same_any _ _ _ _ _ _ _ (by simp) (by have := HRM.out; omega) HP1.out HP2.out).mono ?_; rintro e11 w11 ⟨rfl, hb11⟩
 have HQ11 := hide (HQ10.out.later hb11)
 clear hb11 hHeld
 refine hK.out _ _ (HQ11.out.cells) (fun hHeld => ?_)
 clear hK K
 try simp only [ZP, ZA, ZB, ZC, ZD, ZE, ZF]
 refine tkP 66 ?_ rfl ?_ ?_
 rotate_left
 ·intro w' hSw; (try dsimp only at hSw); go_simp; try with_reducible rfl
 try simp only [ZP, ZA, ZB, ZC, ZD, ZE, ZF]
 refine tkP 67 ?_ rfl ?_ ?_
 rotate_left
 ·intro w' hSw; (try dsimp only at hSw); go_simp; try with_reducible rfl
 try simp only [ZP, ZA, ZB, ZC, ZD, ZE, ZF]
 refine wpAnyH_done (by kernel_rfl) ?_ _
 clear hHeld
 clear m0 m3 m4 m5 l1 x1 x2 x3 x4 x5 x6 x7 x14 x15 x16 x17 x18 HP1 HP2
 obtain ⟨m0, m3, m4, m5, l1, x1, x2, x3, x4, x5, x6, x7, x14, x15, x16, x17, x18⟩ := HQ11.out.cells
 go_wp2_with fail
 refine (rall_any _ _ _ _ _ HQ11.out.rs.log).mono ?_
 rintro e30 w30 ⟨v30, rfl, hv30, hb30⟩
 have HQ30 := hide (HQ11.out.later hb30)
 have hz30 := hb30.size
 obtain ⟨al, cl, rfl⟩ := own_slice' hv30
 rw [← pkcs_toPK] at hv30
 obtain ⟨hpl, hcl, hkl⟩ := own_pk3 (by simp) hv30 (fun p hp => by obtain ⟨q, hq, rfl⟩ := List.mem_map.1 hp; exact toPK_small (HMAY.out q hq))
 have HPL := hide (And.intro hpl (And.intro hcl (fun k o e => (hkl k o e).2)))
 have HQ := hide ((SnAt.mk HQ30.out hpl (fun k o e => (hkl k o e).2)).later (Below.refl _ _).drew)
 have HCL := hide hcl
 have HMY1 := hide (fun W h => spmay_any f s p mc W h HM.out)
 have HMY2 := hide (fun W h => r17may_any d s p mc W h HM.out)
 have HPE1 := hide (fun a n cap ps delay W h hn hcap hP ha => sppersists_any f s a n cap ps r delay W h hn hcap hP ha hsm)
 have HPE2 := hide (fun a n cap ps delay W h hn hP ha => r17persists_any d s a n cap ps r delay W h hn hP ha hsm)
 unfold pkA at HMY1 HMY2
 unfold rtV at HPE1 HPE2
 obtain ⟨qs, hqs⟩ : ∃ y, s.ps.map toPK = y := ⟨_, rfl⟩
 have hqn : qs.length = s.ps.length := by rw [← hqs]; simp
 rw [hqs] at HQ
 clear hv30 hb30 hpl hcl hkl hqs m0 m3 m4 m5 l1 x1 x2 x3 x4 x5 x6 x7 x14 x15 x16 x17 x18
 obtain ⟨m0, m3, m4, m5, l1, x1, x2, x3, x4, x5, x6, x7, x14, x15, x16, x17, x18⟩ := HQ30.out.cells
 go_upto_region 4 with (fail)
 refine wp_region_held_drew (S := (fun w' => SmC w' d s X nw p r)) (by kernel_rfl) (by exact HQ.out.sm.cells) (fun hHeld => ?_)
 refine tkP 0 ?_ rfl ?_ ?_
 rotate_left
 ·intro w' hSw; (try dsimp only at hSw); go_simp; try with_reducible rfl
 try simp only [ZP, ZA, ZB, ZC, ZD, ZE, ZF]
 refine tkP 1 ?_ rfl ?_ ?_
 rotate_left
 ·intro w' hSw; (try dsimp only at hSw); go_simp; try with_reducible rfl
 try simp only [ZP, ZA, ZB, ZC, ZD, ZE, ZF]
 refine tkP 4 ?_ rfl ?_ ?_
 rotate_left
 ·intro w' hSw; (try dsimp only at hSw); go_simp; try with_reducible rfl
 try simp only [ZP, ZA, ZB, ZC, ZD, ZE, ZF]
 refine tkP 5 ?_ rfl ?_ ?_
 rotate_left
 ·intro w' hSw; (try dsimp only at hSw); go_simp; try with_reducible rfl
 try simp only [ZP, ZA, ZB, ZC, ZD, ZE, ZF]
 refine tkP 2 ?_ rfl ?_ ?_
 rotate_left
 ·intro w' hSw; (try dsimp only at hSw); obtain ⟨m0, m3, m4, m5, l1, x1, x2, x3, x4, x5, x6, x7, x14, x15, x16, x17, x18⟩ := hSw; go_simp; try with_reducible rfl
 try simp only [ZP, ZA, ZB, ZC, ZD, ZE, ZF]
 refine tkP 6 ?_ rfl ?_ ?_
 rotate_left
 ·intro w' hSw; (try dsimp only at hSw); obtain ⟨m0, m3, m4, m5, l1, x1, x2, x3, x4, x5, x6, x7, x14, x15, x16, x17, x18⟩ := hSw; go_simp; try with_reducible rfl
 try simp only [ZP, ZA, ZB, ZC, ZD, ZE, ZF]
 refine tkR [3] ?_
 refine ZS rfl (fun K hK => ?_) ZN
 go_simp; go_at_call 41; refine (HMY1.out _ HQ.out.sm.sp).mono ?_; rintro ec3 wc3 ⟨rfl, hb3⟩
 have HQ := hide (HQ.out.later hb3)
 clear hHeld hb3
 refine hK.out _ _ (HQ.out.sm.cells) (fun hHeld => ?_)
 clear hK K
 try simp only [ZP, ZA, ZB, ZC, ZD, ZE, ZF]
 refine tkR [7] ?_
 refine ZS rfl (fun K hK => ?_) ZN
 go_simp; go_at_call 89; refine (HMY2.out _ HQ.out.sm.rs).mono ?_; rintro ec7 wc7 ⟨rfl, hb7⟩
 have HQ := hide (HQ.out.later hb7)
 clear hHeld hb7
 refine hK.out _ _ (HQ.out.sm.cells) (fun hHeld => ?_)
 clear hK K
 try simp only [ZP, ZA, ZB, ZC, ZD, ZE, ZF]
 refine tkP 8 ?_ rfl ?_ ?_
 rotate_left
 ·intro w' hSw; (try dsimp only at hSw); go_simp; try with_reducible rfl
 try simp only [ZP, ZA, ZB, ZC, ZD, ZE, ZF]
 refine tkP 9 ?_ rfl ?_ ?_
 rotate_left
 ·intro w' hSw; (try dsimp only at hSw); go_simp; try with_reducible rfl
 try simp only [ZP, ZA, ZB, ZC, ZD, ZE, ZF]
 refine tkP 10 ?_ rfl ?_ ?_
 rotate_left
 ·intro w' hSw; (try dsimp only at hSw); go_simp; try with_reducible rfl
 try simp only [ZP, ZA, ZB, ZC, ZD, ZE, ZF]
 refine tkP 11 ?_ rfl ?_ ?_
 rotate_left
 ·intro w' hSw; (try dsimp only at hSw); go_simp; try with_reducible rfl
 try simp only [ZP, ZA, ZB, ZC, ZD, ZE, ZF]
 refine tkP 12 ?_ rfl ?_ ?_
 rotate_left
 ·intro w' hSw; (try dsimp only at hSw); go_simp; try with_reducible rfl
 try simp only [ZP, ZA, ZB, ZC, ZD, ZE, ZF]
 refine tkP 15 ?_ rfl ?_ ?_
 rotate_left
 ·intro w' hSw; (try dsimp only at hSw); go_simp; try with_reducible rfl
 try simp only [ZP, ZA, ZB, ZC, ZD, ZE, ZF]
 refine tkP 16 ?_ rfl ?_ ?_
 rotate_left
 ·intro w' hSw; (try dsimp only at hSw); go_simp; try with_reducible rfl
 try simp only [ZP, ZA, ZB, ZC, ZD, ZE, ZF]
 refine tkP 17 ?_ rfl ?_ ?_
 rotate_left
 ·intro w' hSw; (try dsimp only at hSw); go_simp; try with_reducible rfl
 try simp only [ZP, ZA, ZB, ZC, ZD, ZE, ZF]
 refine tkP 13 ?_ rfl ?_ ?_
 rotate_left
 ·intro w' hSw; (try dsimp only at hSw); obtain ⟨m0, m3, m4, m5, l1, x1, x2, x3, x4, x5, x6, x7, x14, x15, x16, x17, x18⟩ := hSw; go_simp; try with_reducible rfl
 try simp only [ZP, ZA, ZB, ZC, ZD, ZE, ZF]
 refine tkP 18 ?_ rfl ?_ ?_
 rotate_left
 ·intro w' hSw; (try dsimp only at hSw); obtain ⟨m0, m3, m4, m5, l1, x1, x2, x3, x4, x5, x6, x7, x14, x15, x16, x17, x18⟩ := hSw; go_simp; try with_reducible rfl
 try simp only [ZP, ZA, ZB, ZC, ZD, ZE, ZF]
 refine tkR [14] ?_
 refine ZS rfl (fun K hK => ?_) ZN
 go_simp; go_at_call 42; refine (HPE1.out al s.ps.length cl qs 5 _ HQ.out.sm.sp hqn HCL.out HQ.out.row HQ.out.lt).mono ?_; rintro ec14 wc14 ⟨rfl, hb14⟩
 have HQ := hide (HQ.out.later hb14)
 clear hHeld hb14
 refine hK.out _ _ (HQ.out.sm.cells) (fun hHeld => ?_)
 clear hK K
 try simp only [ZP, ZA, ZB, ZC, ZD, ZE, ZF]
 refine tkR [19] ?_
 refine ZS rfl (fun K hK => ?_) ZN
 go_simp; go_at_call 90; refine (HPE2.out al s.ps.length cl qs 5 _ HQ.out.sm.rs hqn HQ.out.row HQ.out.lt).mono ?_; rintro ec19 wc19 ⟨rfl, hb19⟩
 have HQ := hide (HQ.out.later hb19)
 clear hHeld hb19
 refine hK.out _ _ (HQ.out.sm.cells) (fun hHeld => ?_)
 clear hK K
 try simp only [ZP, ZA, ZB, ZC, ZD, ZE, ZF]
 refine tkP 20 ?_ rfl ?_ ?_
 rotate_left
 ·intro w' hSw; (try dsimp only at hSw); go_simp; try with_reducible rfl
 try simp only [ZP, ZA, ZB, ZC, ZD, ZE, ZF]
 refine tkP 21 ?_ rfl ?_ ?_
 rotate_left
 ·intro w' hSw; (try dsimp only at hSw); go_simp; try with_reducible rfl
 try simp only [ZP, ZA, ZB, ZC, ZD, ZE, ZF]
 refine tkP 22 ?_ rfl ?_ ?_
 rotate_left
 ·intro w' hSw; (try dsimp only at hSw); go_simp; try with_reducible rfl
 try simp only [ZP, ZA, ZB, ZC, ZD, ZE, ZF]
 refine tkP 23 ?_ rfl ?_ ?_
 rotate_left
 ·intro w' hSw; (try dsimp only at hSw); go_simp; try with_reducible rfl
 try simp only [ZP, ZA, ZB, ZC, ZD, ZE, ZF]
 refine tkP 24 ?_ rfl ?_ ?_
 rotate_left
 ·intro w' hSw; (try dsimp only at hSw); go_simp; try with_reducible rfl
 try simp only [ZP, ZA, ZB, ZC, ZD, ZE, ZF]
 refine tkP 27 ?_ rfl ?_ ?_
 rotate_left
 ·intro w' hSw; (try dsimp only at hSw); go_simp; try with_reducible rfl
 try simp only [ZP, ZA, ZB, ZC, ZD, ZE, ZF]
 refine tkP 29 ?_ rfl ?_ ?_
 rotate_left
 ·intro w' hSw; (try dsimp only at hSw); go_simp; try with_reducible rfl
 try simp only [ZP, ZA, ZB, ZC, ZD, ZE, ZF]
 refine tkP 32 ?_ rfl ?_ ?_
 rotate_left
 ·intro w' hSw; (try dsimp only at hSw); go_simp; try with_reducible rfl
 try simp only [ZP, ZA, ZB, ZC, ZD, ZE, ZF]
 refine tkP 33 ?_ rfl ?_ ?_
 rotate_left
 ·intro w' hSw; (try dsimp only at hSw); go_simp; try with_reducible rfl
 try simp only [ZP, ZA, ZB, ZC, ZD, ZE, ZF]
 refine tkP 36 ?_ rfl ?_ ?_
 rotate_left
 ·intro w' hSw; (try dsimp only at hSw); go_simp; try with_reducible rfl
 try simp only [ZP, ZA, ZB, ZC, ZD, ZE, ZF]
 refine tkP 38 ?_ rfl ?_ ?_
 rotate_left
 ·intro w' hSw; (try dsimp only at hSw); go_simp; try with_reducible rfl
 try simp only [ZP, ZA, ZB, ZC, ZD, ZE, ZF]
 refine tkP 25 ?_ rfl ?_ ?_
 rotate_left
 ·intro w' hSw; (try dsimp only at hSw); obtain ⟨m0, m3, m4, m5, l1, x1, x2, x3, x4, x5, x6, x7, x14, x15, x16, x17, x18⟩ := hSw; go_simp; try with_reducible rfl
 try simp only [ZP, ZA, ZB, ZC, ZD, ZE, ZF]
 refine tkP 30 ?_ rfl ?_ ?_
 rotate_left
 ·intro w' hSw; (try dsimp only at hSw); obtain ⟨m0, m3, m4, m5, l1, x1, x2, x3, x4, x5, x6, x7, x14, x15, x16, x17, x18⟩ := hSw; go_simp; try with_reducible rfl
 try simp only [ZP, ZA, ZB, ZC, ZD, ZE, ZF]
 refine tkP 34 ?_ rfl ?_ ?_
 rotate_left
 ·intro w' hSw; (try dsimp only at hSw); obtain ⟨m0, m3, m4, m5, l1, x1, x2, x3, x4, x5, x6, x7, x14, x15, x16, x17, x18⟩ := hSw; go_simp; try with_reducible rfl
 try simp only [ZP, ZA, ZB, ZC, ZD, ZE, ZF]
 refine tkP 39 ?_ rfl ?_ ?_
 rotate_left
 ·intro w' hSw; (try dsimp only at hSw); obtain ⟨m0, m3, m4, m5, l1, x1, x2, x3, x4, x5, x6, x7, x14, x15, x16, x17, x18⟩ := hSw; go_simp; try with_reducible rfl
 try simp only [ZP, ZA, ZB, ZC, ZD, ZE, ZF]
 refine tkP 26 ?_ rfl ?_ ?_
 rotate_left
 ·intro w' hSw; (try dsimp only at hSw); go_simp; try with_reducible rfl
 try simp only [ZP, ZA, ZB, ZC, ZD, ZE, ZF]
 refine tkP 35 ?_ rfl ?_ ?_
 rotate_left
 ·intro w' hSw; (try dsimp only at hSw); go_simp; try with_reducible rfl
 try simp only [ZP, ZA, ZB, ZC, ZD, ZE, ZF]
 refine tkR [28, 37] ?_
 refine ZS rfl (fun K hK => ?_) (ZS rfl (fun K hK => ?_) (ZN))
 ·go_simp
  have HL1 := hide (lit_new (W := wc19) (k := wc19.heap.size) (by simp) hnw)
  have HQ := hide (HQ.out.later ((Below.refl _ _).alloc (Nat.le_refl _) (.cells (litC nw) 40)))
  clear hHeld
  refine hK.out _ _ (HQ.out.sm.cells) (fun hHeld => ?_)
  clear hK K
  try simp only [ZP, ZA, ZB, ZC, ZD, ZE, ZF]
  refine tkR [31, 37] ?_
  refine ZS rfl (fun K hK => ?_) (ZS rfl (fun K hK => ?_) (ZN))
  ·go_simp; go_at_call 42; refine (HPE1.out _ 2 2 (litQ nw) 0 _ HQ.out.sm.sp rfl (Nat.le_refl _) HL1.out.1 HL1.out.2).mono ?_; rintro ec31 wc31 ⟨rfl, hb31⟩
   have HL1 := hide (HL1.out.later hb31)
   have HQ := hide (HQ.out.later hb31)
   clear hHeld hb31
   refine hK.out _ _ (HQ.out.sm.cells) (fun hHeld => ?_)
   clear hK K
   try simp only [ZP, ZA, ZB, ZC, ZD, ZE, ZF]
   refine tkR [37] ?_
   refine ZS rfl (fun K hK => ?_) ZN
   go_simp
   have HL2 := hide (lit_new (W := wc31) (k := wc31.heap.size) (by simp) hnw)
   have HL1 := hide (HL1.out.later ((Below.refl _ _).alloc (Nat.le_refl _) (.cells (litC nw) 40)))
   have HQ := hide (HQ.out.later ((Below.refl _ _).alloc (Nat.le_refl _) (.cells (litC nw) 40)))
   clear hHeld
   refine hK.out _ _ (HQ.out.sm.cells) (fun hHeld => ?_)
   clear hK K
   try simp only [ZP, ZA, ZB, ZC, ZD, ZE, ZF]
   refine tkR [40] ?_
   refine ZS rfl (fun K hK => ?_) ZN
   go_simp; go_at_call 90; refine (HPE2.out _ 2 2 (litQ nw) 0 _ HQ.out.sm.rs rfl HL2.out.1 HL2.out.2).mono ?_; rintro ec40 wc40 ⟨rfl, hb40⟩
   have HL1 := hide (HL1.out.later hb40)
   have HL2 := hide (HL2.out.later hb40)
   have HQ := hide (HQ.out.later hb40)
   clear hHeld hb40
   refine hK.out _ _ (HQ.out.sm.cells) (fun hHeld => ?_)
   clear hK K
   try simp only [ZP, ZA, ZB, ZC, ZD, ZE, ZF]
   refine tkP 41 ?_ rfl ?_ ?_
   rotate_left
   ·intro w' hSw; (try dsimp only at hSw); go_simp; try with_reducible rfl
   try simp only [ZP, ZA, ZB, ZC, ZD, ZE, ZF]
   refine tkP 42 ?_ rfl ?_ ?_
   rotate_left
   ·intro w' hSw; (try dsimp only at hSw); go_simp; try with_reducible rfl
   try simp only [ZP, ZA, ZB, ZC, ZD, ZE, ZF]
   refine tkP 43 ?_ rfl ?_ ?_
   rotate_left
   ·intro w' hSw; (try dsimp only at hSw); go_simp; try with_reducible rfl
   try simp only [ZP, ZA, ZB, ZC, ZD, ZE, ZF]
   refine wpAnyH_done (by kernel_rfl) ?_ _
   clear hHeld
   go_wp2_with fail
   have hfin := HQ.out.sm.below
   first
   | exact ⟨rfl, hfin⟩
   | (go_ret; exact ⟨rfl, hfin⟩)
  ·go_simp
   have HL2 := hide (lit_new (W := (wc19.alloc (.cells (litC nw) 40))) (k := wc19.heap.size + 1) (by simp) hnw)
   have HL1 := hide (HL1.out.later ((Below.refl _ _).alloc (Nat.le_refl _) (.cells (litC nw) 40)))
   have HQ := hide (HQ.out.later ((Below.refl _ _).alloc (Nat.le_refl _) (.cells (litC nw) 40)))
   clear hHeld
   refine hK.out _ _ (HQ.out.sm.cells) (fun hHeld => ?_)
   clear hK K
   try simp only [ZP, ZA, ZB, ZC, ZD, ZE, ZF]
   refine tkR [31] ?_
   refine ZS rfl (fun K hK => ?_) ZN
   go_simp; go_at_call 42; refine (HPE1.out _ 2 2 (litQ nw) 0 _ HQ.out.sm.sp rfl (Nat.le_refl _) HL1.out.1 HL1.out.2).mono ?_; rintro ec31 wc31 ⟨rfl, hb31⟩
   have HL1 := hide (HL1.out.later hb31)
   have HL2 := hide (HL2.out.later hb31)
   have HQ := hide (HQ.out.later hb31)
   clear hHeld hb31
   refine hK.out _ _ (HQ.out.sm.cells) (fun hHeld => ?_)
   clear hK K
   try simp only [ZP, ZA, ZB, ZC, ZD, ZE, ZF]
   refine tkR [40] ?_
   refine ZS rfl (fun K hK => ?_) ZN
   go_simp; go_at_call 90; refine (HPE2.out _ 2 2 (litQ nw) 0 _ HQ.out.sm.rs rfl HL2.out.1 HL2.out.2).mono ?_; rintro ec40 wc40 ⟨rfl, hb40⟩
   have HL1 := hide (HL1.out.later hb40)
   have HL2 := hide (HL2.out.later hb40)
   have HQ := hide (HQ.out.later hb40)
   clear hHeld hb40
   refine hK.out _ _ (HQ.out.sm.cells) (fun hHeld => ?_)
   clear hK K
   try simp only [ZP, ZA, ZB, ZC, ZD, ZE, ZF]
   refine tkP 41 ?_ rfl ?_ ?_
   rotate_left
   ·intro w' hSw; (try dsimp only at hSw); go_simp; try with_reducible rfl
   try simp only [ZP, ZA, ZB, ZC, ZD, ZE, ZF]
   refine tkP 42 ?_ rfl ?_ ?_
   rotate_left
   ·intro w' hSw; (try dsimp only at hSw); go_simp; try with_reducible rfl
   try simp only [ZP, ZA, ZB, ZC, ZD, ZE, ZF]
   refine tkP 43 ?_ rfl ?_ ?_
   rotate_left
   ·intro w' hSw; (try dsimp only at hSw); go_simp; try with_reducible rfl
   try simp only [ZP, ZA, ZB, ZC, ZD, ZE, ZF]
   refine wpAnyH_done (by kernel_rfl) ?_ _
   clear hHeld
   go_wp2_with fail
   have hfin := HQ.out.sm.below
   first
   | exact ⟨rfl, hfin⟩
   | (go_ret; exact ⟨rfl, hfin⟩)
 ·go_simp
  have HL2 := hide (lit_new (W := wc19) (k := wc19.heap.size) (by simp) hnw)
  have HQ := hide (HQ.out.later ((Below.refl _ _).alloc (Nat.le_refl _) (.cells (litC nw) 40)))
  clear hHeld
  refine hK.out _ _ (HQ.out.sm.cells) (fun hHeld => ?_)
  clear hK K
  try simp only [ZP, ZA, ZB, ZC, ZD, ZE, ZF]
  refine tkR [28] ?_
  refine ZS rfl (fun K hK => ?_) ZN
  go_simp
  have HL1 := hide (lit_new (W := (wc19.alloc (.cells (litC nw) 40))) (k := wc19.heap.size + 1) (by simp) hnw)
  have HL2 := hide (HL2.out.later ((Below.refl _ _).alloc (Nat.le_refl _) (.cells (litC nw) 40)))
  have HQ := hide (HQ.out.later ((Below.refl _ _).alloc (Nat.le_refl _) (.cells (litC nw) 40)))
  clear hHeld
  refine hK.out _ _ (HQ.out.sm.cells) (fun hHeld => ?_)
  clear hK K
  try simp only [ZP, ZA, ZB, ZC, ZD, ZE, ZF]
  refine tkR [31] ?_
  refine ZS rfl (fun K hK => ?_) ZN
  go_simp; go_at_call 42; refine (HPE1.out _ 2 2 (litQ nw) 0 _ HQ.out.sm.sp rfl (Nat.le_refl _) HL1.out.1 HL1.out.2).mono ?_; rintro ec31 wc31 ⟨rfl, hb31⟩
  have HL1 := hide (HL1.out.later hb31)
  have HL2 := hide (HL2.out.later hb31)
  have HQ := hide (HQ.out.later hb31)
  clear hHeld hb31
  refine hK.out _ _ (HQ.out.sm.cells) (fun hHeld => ?_)
  clear hK K
  try simp only [ZP, ZA, ZB, ZC, ZD, ZE, ZF]
  refine tkR [40] ?_
  refine ZS rfl (fun K hK => ?_) ZN
  go_simp; go_at_call 90; refine (HPE2.out _ 2 2 (litQ nw) 0 _ HQ.out.sm.rs rfl HL2.out.1 HL2.out.2).mono ?_; rintro ec40 wc40 ⟨rfl, hb40⟩
  have HL1 := hide (HL1.out.later hb40)
  have HL2 := hide (HL2.out.later hb40)
  have HQ := hide (HQ.out.later hb40)
  clear hHeld hb40
  refine hK.out _ _ (HQ.out.sm.cells) (fun hHeld => ?_)
  clear hK K
  try simp only [ZP, ZA, ZB, ZC, ZD, ZE, ZF]
  refine tkP 41 ?_ rfl ?_ ?_
  rotate_left
  ·intro w' hSw; (try dsimp only at hSw); go_simp; try with_reducible rfl
  try simp only [ZP, ZA, ZB, ZC, ZD, ZE, ZF]
  refine tkP 42 ?_ rfl ?_ ?_
  rotate_left
  ·intro w' hSw; (try dsimp only at hSw); go_simp; try with_reducible rfl
  try simp only [ZP, ZA, ZB, ZC, ZD, ZE, ZF]
  refine tkP 43 ?_ rfl ?_ ?_
  rotate_left
  ·intro w' hSw; (try dsimp only at hSw); go_simp; try with_reducible rfl
  try simp only [ZP, ZA, ZB, ZC, ZD, ZE, ZF]
  refine wpAnyH_done (by kernel_rfl) ?_ _
  clear hHeld
  go_wp2_with fail
  have hfin := HQ.out.sm.below
  first
  | exact ⟨rfl, hfin⟩
  | (go_ret; exact ⟨rfl, hfin⟩)
end Go.Proofs.YtgicljeedegncaaGreat
