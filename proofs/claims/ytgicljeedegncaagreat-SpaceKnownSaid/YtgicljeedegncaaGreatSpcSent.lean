/-
 The calls of a space that put a packet in: May, Sent. Printed by wip/gensp2.py.
-/
import Derived.Test.YtgicljeedegncaaGreatTqSpcQuick
namespace Go.Proofs.YtgicljeedegncaaGreat
open List renaming getElem_toArray → ZA, getElem_cons_zero → ZB, getElem_cons_succ → ZC, setIfInBounds_toArray → ZD, set_cons_zero → ZE, set_cons_succ → ZF
open Go.Act renaming put → ZP
open Go.Value renaming int → ZI
open Go.IntKind renaming i64 → ZQ
set_option linter.unusedSimpArgs false
set_option linter.unusedVariables false
open Go.RowKit

theorem below_of_drew {W w2 : World} (h : Below W.drew.heap.size W.drew w2) : Below W.heap.size W w2 := ((Below.refl W.heap.size W).drew).trans h
def pkA (p : Pk) : Value := .agg #[ZI ZQ p.num, ZI ZQ p.time, ZI ZQ p.size, .bool p.el, .bool p.fl, .bool p.ect]
/-- What Put answers. -/
def PutC (room : Nat) (last : Int) (ps : List Pk) (p : Pk) (c : Int) : Prop := (¬ p.may ∧ c = 2) ∨ (p.may ∧ p.num ≤ last ∧ c = 60) ∨ (p.may ∧ last < p.num ∧ ps.length = room ∧ c = 5) ∨ (p.may ∧ last < p.num ∧ ps.length < room ∧ c = 0)
theorem put_code {n : Nat} (b rb room : Nat) (last : Int) (ps : List Pk) (p : Pk) (c : Int) (w : World) (hL : IsLog w b rb room last ps) (hb : n ≤ b) (hr : n ≤ rb) (hn : n ≤ w.heap.size) (hc : PutC room last ps p c) :
  Calls Tryz.prog 62 #[.pointer (some ⟨b, 0, none⟩), pkA p] w fun e w' => e = .returned (ZI ZQ c) ∧ Below n w w' := by
 obtain ⟨pn, pt, ps_, pe, pf, pc⟩ := p
 rcases hc with ⟨h1, rfl⟩ | ⟨h1, h2, rfl⟩ | ⟨h1, h2, h3, rfl⟩ | ⟨h1, h2, h3, rfl⟩
 ·exact (put_no b rb room last _ _ _ _ _ _ ps w hL h1).mono fun e w' ⟨h, hb⟩ => ⟨h, hb.mono hn⟩
 ·exact (put_low b rb room last _ _ _ _ _ _ ps w hL h1 h2).mono fun e w' ⟨h, hb⟩ => ⟨h, hb.mono hn⟩
 ·exact (put_full b rb room last _ _ _ _ _ _ ps w hL h1 h2 h3).mono fun e w' ⟨h, hb⟩ => ⟨h, hb.mono hn⟩
 ·exact (put_ok b rb room last _ _ _ _ _ _ ps w hL h1 h2 h3).mono fun e w' ⟨h, rb', h4, h5, h6⟩ => ⟨h, h6.below (fun x hx => by
   simp at hx
   rcases hx with rfl | rfl
   ·exact hb
   ·exact hr) hn⟩
/-- What Add of one number answers. -/
def AddC (K : List Rg) (n : Int) (c : Int) : Prop := (256 < (addR n n K).length ∧ c = 5) ∨ ((addR n n K).length ≤ 256 ∧ c = 0)
theorem add_code {n : Nat} (b : Nat) (g : Option Nat) (K : List Rg) (x c : Int) (w : World) (hS : IsSet w b g 256 K) (hb : n ≤ b) (hg : ∀ k, g = some k → n ≤ k) (hn : n ≤ w.heap.size) (h0 : 0 ≤ x) (h1 : x ≤ 9007199254740991) (hc : AddC K x c) :
  Calls Tryz.prog 63 #[.pointer (some ⟨b, 0, none⟩), ZI ZQ x, ZI ZQ x] w fun e w' => e = .returned (ZI ZQ c) ∧ Below n w w' := by
 rcases hc with ⟨h2, rfl⟩ | ⟨h2, rfl⟩
 ·exact (add_limit b g 256 x x K w hS h0 (Int.le_refl _) h1 h2).mono fun e w' ⟨h, hb⟩ => ⟨h, hb.mono hn⟩
 ·exact (add_ok b g 256 x x K w hS h0 (Int.le_refl _) h1 h2).mono fun e w' ⟨h, g', h4, h5, h6⟩ => ⟨h, h6.below (fun y hy => by
   simp only [List.mem_cons, Option.mem_toList] at hy
   rcases hy with rfl | hy
   ·exact hb
   ·exact hg y hy) hn⟩
/-- What May answers: c1 of the log, c of all. -/
def MayC (s : SpSt) (p : Pk) (c : Int) : Prop := (PutC s.room s.last s.ps p c ∧ c ≠ 0) ∨ (PutC s.room s.last s.ps p 0 ∧ AddC s.K p.num c)
theorem pk_may_num {p : Pk} (h : p.may) : 0 ≤ p.num ∧ p.num ≤ 9007199254740991 := by
 unfold Pk.may at h
 omega
theorem PutC.zero {room : Nat} {last : Int} {ps : List Pk} {p : Pk} (h : PutC room last ps p 0) : p.may ∧ last < p.num ∧ ps.length < room := by
 rcases h with ⟨_, h⟩ | ⟨_, _, h⟩ | ⟨_, _, _, h⟩ | ⟨h1, h2, h3, _⟩
 ·cases h
 ·cases h
 ·cases h
 ·exact ⟨h1, h2, h3⟩
/-- The packet's box, and the space. -/
structure BxAt (w W : World) (f : Ft) (s : SpSt) (X : Nat) (p : Pk) : Prop where
 sp : IsSp W f s
 box : Blk W X 40 #[ZI ZQ p.num, ZI ZQ p.time, ZI ZQ p.size, .bool p.el, .bool p.fl, .bool p.ect]
 below : Below w.heap.size w W
theorem BxAt.later {w W W' : World} {f : Ft} {s : SpSt} {X : Nat} {p : Pk} (h : BxAt w W f s X p) (hb : Below W.heap.size W W') : BxAt w W' f s X p := ⟨h.sp.below hb, (hb.block _ h.box.lt).trans h.box, bw_below' h.below hb⟩
theorem BxAt.drew {w W : World} {f : Ft} {s : SpSt} {X : Nat} {p : Pk} (h : BxAt w W f s X p) : BxAt w W.drew f s X p := h.later (Below.refl _ _).drew
theorem BxAt.seven {w W : World} {f : Ft} {s : SpSt} {X : Nat} {p : Pk} (h : BxAt w W f s X p) : W.cell? ⟨f.b, 0, none⟩ = some (.pointer (some ⟨f.lb, 0, none⟩)) ∧ W.cell? ⟨f.b, 1, none⟩ = some (.pointer (some ⟨f.kb, 0, none⟩)) ∧ W.cell? ⟨X, 0, none⟩ = some (ZI ZQ p.num) ∧ W.cell? ⟨X, 1, none⟩ = some (ZI ZQ p.time) ∧ W.cell? ⟨X, 2, none⟩ = some (ZI ZQ p.size) ∧ W.cell? ⟨X, 3, none⟩ = some (.bool p.el) ∧ W.cell? ⟨X, 4, none⟩ = some (.bool p.fl) ∧ W.cell? ⟨X, 5, none⟩ = some (.bool p.ect) := ⟨h.sp.blk.cell 0, h.sp.blk.cell 1, h.box.cell 0, h.box.cell 1, h.box.cell 2, h.box.cell 3, h.box.cell 4, h.box.cell 5⟩
set_option maxRecDepth 100000 in
set_option maxHeartbeats 2000000 in
theorem spmay_any (f : Ft) (s : SpSt) (p : Pk) (c : Int) (w : World) (h : IsSp w f s) (hm : MayC s p c) :
  Calls Tryz.prog 41 #[.pointer (some ⟨f.b, 0, none⟩), pkA p] w fun e w' => e = .returned (ZI ZQ c) ∧ Below w.heap.size w w' := by
 have h1 : BxAt w (w.alloc (.cells #[ZI ZQ p.num, ZI ZQ p.time, ZI ZQ p.size, .bool p.el, .bool p.fl, .bool p.ect] 40)) f s w.heap.size p := ⟨h.alloc _, Blk.new _ _ _, (Below.refl _ _).alloc (Nat.le_refl _) _⟩
 have HX := hide h1
 have HM := hide hm
 clear h h1 hm
 unfold pkA
 go_enter Tryz.func41, Tryz.ntmps41
 go_wp2_with fail
 refine (spnone f s _ HX.out.sp).mono ?_
 rintro e1 w1 ⟨rfl, rfl⟩
 obtain ⟨y0, y1, x0, x1, x2, x3, x4, x5⟩ := HX.out.seven
 go_wp2_with fail
 obtain ⟨c1, hc1⟩ : ∃ c1, PutC s.room s.last s.ps p c1 ∧ ((c1 ≠ 0 ∧ c = c1) ∨ (c1 = 0 ∧ AddC s.K p.num c)) := by
  rcases HM.out with ⟨h1, h2⟩ | ⟨h1, h2⟩
  ·exact ⟨c, h1, .inl ⟨h2, rfl⟩⟩
  ·exact ⟨0, h1, .inr ⟨rfl, h2⟩⟩
 have HC := hide hc1
 clear hc1
 refine wp_region_S (fun w' => w'.cell? ⟨f.b, 0, none⟩ = some (.pointer (some ⟨f.lb, 0, none⟩)) ∧ w'.cell? ⟨f.b, 1, none⟩ = some (.pointer (some ⟨f.kb, 0, none⟩)) ∧ w'.cell? ⟨w.heap.size, 0, none⟩ = some (ZI ZQ p.num) ∧ w'.cell? ⟨w.heap.size, 1, none⟩ = some (ZI ZQ p.time) ∧ w'.cell? ⟨w.heap.size, 2, none⟩ = some (ZI ZQ p.size) ∧ w'.cell? ⟨w.heap.size, 3, none⟩ = some (.bool p.el) ∧ w'.cell? ⟨w.heap.size, 4, none⟩ = some (.bool p.fl) ∧ w'.cell? ⟨w.heap.size, 5, none⟩ = some (.bool p.ect)) 1000 (by kernel_rfl) (by exact ⟨y0, y1, x0, x1, x2, x3, x4, x5⟩) (fun hHeld => ?_)
 refine tsP 0 ?_ rfl ?_ ?_
 rotate_left
 ·intro w hSw; (try dsimp only at hSw); go_simp; try with_reducible rfl
 try simp only [ZP, ZA, ZC, ZB, ZD, ZE, ZF]
 refine tsP 1 ?_ rfl ?_ ?_
 rotate_left
 ·intro w hSw; (try dsimp only at hSw); go_simp; try with_reducible rfl
 try simp only [ZP, ZA, ZC, ZB, ZD, ZE, ZF]
 refine tsP 2 ?_ rfl ?_ ?_
 rotate_left
 ·intro w hSw; (try dsimp only at hSw); go_simp; try with_reducible rfl
 try simp only [ZP, ZA, ZC, ZB, ZD, ZE, ZF]
 refine tsP 3 ?_ rfl ?_ ?_
 rotate_left
 ·intro w hSw; (try dsimp only at hSw); go_simp; try with_reducible rfl
 try simp only [ZP, ZA, ZC, ZB, ZD, ZE, ZF]
 refine tsP 5 ?_ rfl ?_ ?_
 rotate_left
 ·intro w hSw; (try dsimp only at hSw); go_simp; try with_reducible rfl
 try simp only [ZP, ZA, ZC, ZB, ZD, ZE, ZF]
 refine wpAnyS_one (i := 4) rfl (by kernel_rfl) (fun K hK => ?_)
 go_simp; go_at_call 84; refine (copy_any _ _ _ _ _ _ (BxAt.sp (by first | exact HX.out | exact HX.out.drew)).log).mono ?_; rintro e2 w2 ⟨b2, rb2, rfl, hl2, hn2, hr2, hb2⟩; have HX2 := hide (BxAt.later (by first | exact HX.out | exact HX.out.drew) hb2); have HL2 := hide hl2; have HN2 := hide (And.intro hn2 hr2); have HZ2 : Hid ((w.alloc (.cells #[ZI ZQ p.num, ZI ZQ p.time, ZI ZQ p.size, .bool p.el, .bool p.fl, .bool p.ect] 40)).heap.size ≤ w2.heap.size) := hide hb2.size; have HB2 : Hid (∀ w3 : World, Below (w.alloc (.cells #[ZI ZQ p.num, ZI ZQ p.time, ZI ZQ p.size, .bool p.el, .bool p.fl, .bool p.ect] 40)).heap.size w2 w3 → BxAt w w3 f s w.heap.size p) := hide (fun w3 hb3 => HX.out.later (Below.trans (by first | exact hb2 | exact below_of_drew hb2) hb3)); clear hl2 hn2 hr2 hb2
 refine hK.out _ _ (fun _ => HX2.out.seven) (fun hH => ?_)
 have hHeld := hH rfl
 clear hK K hH
 try simp only [ZP, ZA, ZC, ZB, ZD, ZE, ZF]
 refine wpAnyS_one (i := 6) rfl (by kernel_rfl) (fun K hK => ?_)
 go_simp; go_at_call 62; refine (put_code (n := (w.alloc (.cells #[ZI ZQ p.num, ZI ZQ p.time, ZI ZQ p.size, .bool p.el, .bool p.fl, .bool p.ect] 40)).heap.size) b2 rb2 _ _ _ p c1 _ (by first | exact HL2.out | exact HL2.out.drew) HN2.out.1 HN2.out.2 HZ2.out HC.out.1).mono ?_; rintro e3 w3 ⟨rfl, hb3⟩; have HX3 := hide (HB2.out _ hb3); clear hb3
 refine hK.out _ _ (fun _ => HX3.out.seven) (fun hH => ?_)
 have hHeld := hH rfl
 clear hK K hH
 try simp only [ZP, ZA, ZC, ZB, ZD, ZE, ZF]
 refine tsP 7 ?_ rfl ?_ ?_
 rotate_left
 ·intro w hSw; (try dsimp only at hSw); go_simp; try with_reducible rfl
 try simp only [ZP, ZA, ZC, ZB, ZD, ZE, ZF]
 refine wpAnyS_done (by kernel_rfl) ?_ _
 rcases HC.out.2 with ⟨h0, rfl⟩ | ⟨rfl, hA⟩
 ·go_wp2_with fail
  go_ret
  exact ⟨rfl, HX3.out.below⟩
 ·have HA := hide hA
  have hmn := pk_may_num HC.out.1.zero.1
  have HMN := hide hmn
  clear hA hHeld y0 y1 x0 x1 x2 x3 x4 x5 HB2 HZ2 HN2 HL2 HX2 HX hmn
  obtain ⟨y0, y1, x0, x1, x2, x3, x4, x5⟩ := HX3.out.seven
  go_wp2_with fail
  refine wp_region_S (fun w' => w'.cell? ⟨f.b, 0, none⟩ = some (.pointer (some ⟨f.lb, 0, none⟩)) ∧ w'.cell? ⟨f.b, 1, none⟩ = some (.pointer (some ⟨f.kb, 0, none⟩)) ∧ w'.cell? ⟨w.heap.size, 0, none⟩ = some (ZI ZQ p.num) ∧ w'.cell? ⟨w.heap.size, 1, none⟩ = some (ZI ZQ p.time) ∧ w'.cell? ⟨w.heap.size, 2, none⟩ = some (ZI ZQ p.size) ∧ w'.cell? ⟨w.heap.size, 3, none⟩ = some (.bool p.el) ∧ w'.cell? ⟨w.heap.size, 4, none⟩ = some (.bool p.fl) ∧ w'.cell? ⟨w.heap.size, 5, none⟩ = some (.bool p.ect)) 1000 (by kernel_rfl) (by exact ⟨y0, y1, x0, x1, x2, x3, x4, x5⟩) (fun hHeld => ?_)
  refine tsP 0 ?_ rfl ?_ ?_
  rotate_left
  ·intro w hSw; (try dsimp only at hSw); go_simp; try with_reducible rfl
  try simp only [ZP, ZA, ZC, ZB, ZD, ZE, ZF]
  refine tsP 1 ?_ rfl ?_ ?_
  rotate_left
  ·intro w hSw; (try dsimp only at hSw); go_simp; try with_reducible rfl
  try simp only [ZP, ZA, ZC, ZB, ZD, ZE, ZF]
  refine tsP 2 ?_ rfl ?_ ?_
  rotate_left
  ·intro w hSw; (try dsimp only at hSw); go_simp; try with_reducible rfl
  try simp only [ZP, ZA, ZC, ZB, ZD, ZE, ZF]
  refine tsP 3 ?_ rfl ?_ ?_
  rotate_left
  ·intro w hSw; (try dsimp only at hSw); go_simp; try with_reducible rfl
  try simp only [ZP, ZA, ZC, ZB, ZD, ZE, ZF]
  refine tsP 5 ?_ rfl ?_ ?_
  rotate_left
  ·intro w hSw; (try dsimp only at hSw); go_simp; try with_reducible rfl
  try simp only [ZP, ZA, ZC, ZB, ZD, ZE, ZF]
  refine tsP 6 ?_ rfl ?_ ?_
  rotate_left
  ·intro w hSw; (try dsimp only at hSw); go_simp; try with_reducible rfl
  try simp only [ZP, ZA, ZC, ZB, ZD, ZE, ZF]
  refine tsP 7 ?_ rfl ?_ ?_
  rotate_left
  ·intro w hSw; (try dsimp only at hSw); go_simp; try with_reducible rfl
  try simp only [ZP, ZA, ZC, ZB, ZD, ZE, ZF]
  refine tsP 8 ?_ rfl ?_ ?_
  rotate_left
  ·intro w hSw; (try dsimp only at hSw); go_simp; try with_reducible rfl
  try simp only [ZP, ZA, ZC, ZB, ZD, ZE, ZF]
  refine wpAnyS_one (i := 4) rfl (by kernel_rfl) (fun K hK => ?_)
  go_simp; go_at_call 85; refine (scopy_any _ _ _ _ _ (BxAt.sp (by first | exact HX3.out | exact HX3.out.drew)).kn).mono ?_; rintro e4 w4 ⟨b4, g4, rfl, hk4, hn4, hg4, hb4⟩; have HX4 := hide (BxAt.later (by first | exact HX3.out | exact HX3.out.drew) hb4); have HK4 := hide hk4; have HG4 := hide (And.intro hn4 hg4); have HZ4 := hide hb4.size; have HB4 : Hid (∀ w5 : World, Below w3.heap.size w4 w5 → BxAt w w5 f s w.heap.size p) := hide (fun w5 hb5 => HX3.out.later (Below.trans (by first | exact hb4 | exact below_of_drew hb4) hb5)); clear hk4 hn4 hg4 hb4
  refine hK.out _ _ (fun _ => HX4.out.seven) (fun hH => ?_)
  have hHeld := hH rfl
  clear hK K hH
  try simp only [ZP, ZA, ZC, ZB, ZD, ZE, ZF]
  refine wpAnyS_one (i := 9) rfl (by kernel_rfl) (fun K hK => ?_)
  go_simp; go_at_call 63; refine (add_code (n := w3.heap.size) b4 g4 _ _ c _ (by first | exact HK4.out | exact HK4.out.drew) HG4.out.1 HG4.out.2 HZ4.out HMN.out.1 HMN.out.2 HA.out).mono ?_; rintro e5 w5 ⟨rfl, hb5⟩; have HX5 := hide (HB4.out _ hb5); clear hb5
  refine hK.out _ _ (fun _ => HX5.out.seven) (fun hH => ?_)
  have hHeld := hH rfl
  clear hK K hH
  try simp only [ZP, ZA, ZC, ZB, ZD, ZE, ZF]
  refine tsP 10 ?_ rfl ?_ ?_
  rotate_left
  ·intro w hSw; (try dsimp only at hSw); go_simp; try with_reducible rfl
  try simp only [ZP, ZA, ZC, ZB, ZD, ZE, ZF]
  refine wpAnyS_done (by kernel_rfl) ?_ _
  go_wp2_with fail
  go_ret
  exact ⟨rfl, HX5.out.below⟩
def sentSt (s : SpSt) (p : Pk) : SpSt := { s with last := p.num, ps := s.ps ++ [p], K := addR p.num p.num s.K, time := if p.fl && p.el then p.time else s.time }
set_option maxRecDepth 100000 in
set_option maxHeartbeats 2000000 in
theorem spsent_no (f : Ft) (s : SpSt) (p : Pk) (c : Int) (w : World) (h : IsSp w f s) (hm : MayC s p c) (hc : c ≠ 0) :
  Calls Tryz.prog 25 #[.pointer (some ⟨f.b, 0, none⟩), pkA p] w fun e w' => e = .returned (ZI ZQ c) ∧ Below w.heap.size w w' := by
 have h1 : BxAt w (w.alloc (.cells #[ZI ZQ p.num, ZI ZQ p.time, ZI ZQ p.size, .bool p.el, .bool p.fl, .bool p.ect] 40)) f s w.heap.size p := ⟨h.alloc _, Blk.new _ _ _, (Below.refl _ _).alloc (Nat.le_refl _) _⟩
 have HX := hide h1
 have HM := hide hm
 clear h h1 hm
 unfold pkA
 obtain ⟨y0, y1, x0, x1, x2, x3, x4, x5⟩ := HX.out.seven
 go_enter Tryz.func25, Tryz.ntmps25
 go_wp2_with fail
 refine (spmay_any f s p c _ HX.out.sp HM.out).mono ?_
 rintro e1 w1 ⟨rfl, hb⟩
 go_wp2_with fail
 go_ret
 exact ⟨rfl, bw_below' HX.out.below hb⟩

/-- The packet's box, and the space that turns. -/
structure BxP (W1 W : World) (f : Ft) (s' : SpSt) (f' : Ft) (X : Nat) (p : Pk) : Prop where
 post : SpPost W1 f s' f' W
 box : Blk W X 40 #[ZI ZQ p.num, ZI ZQ p.time, ZI ZQ p.size, .bool p.el, .bool p.fl, .bool p.ect]
 lo : ∀ x ∈ f.all, x < X
 hi : X < W1.heap.size
theorem BxP.later {W1 W W' : World} {f f' : Ft} {s' : SpSt} {X : Nat} {p : Pk} (h : BxP W1 W f s' f' X p) (hb : Below W.heap.size W W') : BxP W1 W' f s' f' X p := ⟨h.post.below hb, (hb.block _ h.box.lt).trans h.box, h.lo, h.hi⟩
theorem BxP.drew {W1 W : World} {f f' : Ft} {s' : SpSt} {X : Nat} {p : Pk} (h : BxP W1 W f s' f' X p) : BxP W1 W.drew f s' f' X p := h.later (Below.refl _ _).drew
theorem BxP.off {W1 W : World} {f f' : Ft} {s' : SpSt} {X : Nat} {p : Pk} (h : BxP W1 W f s' f' X p) : X ∉ f'.all := fun hm => by
 have h1 := h.hi
 rcases h.post.new X hm with h2 | h2
 ·have := h.lo X h2; omega
 ·omega
theorem BxP.step {W1 W W' : World} {f f' f2 : Ft} {s' s2 : SpSt} {X : Nat} {p : Pk} (h : BxP W1 W f s' f' X p) (hp : SpPost W f' s2 f2 W') : BxP W1 W' f s2 f2 X p := ⟨h.post.trans hp, hp.only.blk h.box h.off, h.lo, h.hi⟩
theorem BxP.seven {W1 W : World} {f f' : Ft} {s' : SpSt} {X : Nat} {p : Pk} (h : BxP W1 W f s' f' X p) : W.cell? ⟨f'.b, 0, none⟩ = some (.pointer (some ⟨f'.lb, 0, none⟩)) ∧ W.cell? ⟨f'.b, 1, none⟩ = some (.pointer (some ⟨f'.kb, 0, none⟩)) ∧ W.cell? ⟨X, 0, none⟩ = some (ZI ZQ p.num) ∧ W.cell? ⟨X, 1, none⟩ = some (ZI ZQ p.time) ∧ W.cell? ⟨X, 2, none⟩ = some (ZI ZQ p.size) ∧ W.cell? ⟨X, 3, none⟩ = some (.bool p.el) ∧ W.cell? ⟨X, 4, none⟩ = some (.bool p.fl) ∧ W.cell? ⟨X, 5, none⟩ = some (.bool p.ect) := ⟨h.post.sp.blk.cell 0, h.post.sp.blk.cell 1, h.box.cell 0, h.box.cell 1, h.box.cell 2, h.box.cell 3, h.box.cell 4, h.box.cell 5⟩
set_option maxRecDepth 100000 in
set_option maxHeartbeats 2000000 in
theorem spsent_ok (f : Ft) (s : SpSt) (p : Pk) (w : World) (h : IsSp w f s) (hm : p.may) (hn : s.last < p.num) (hr : s.ps.length < s.room) (hK : (addR p.num p.num s.K).length ≤ 256) :
  Calls Tryz.prog 25 #[.pointer (some ⟨f.b, 0, none⟩), pkA p] w fun e w' => e = .returned (ZI ZQ 0) ∧ ∃ f', SpPost w f (sentSt s p) f' w' := by
 have hlo := h.lt
 have h1 : BxAt w (w.alloc (.cells #[ZI ZQ p.num, ZI ZQ p.time, ZI ZQ p.size, .bool p.el, .bool p.fl, .bool p.ect] 40)) f s w.heap.size p := ⟨h.alloc _, Blk.new _ _ _, (Below.refl _ _).alloc (Nat.le_refl _) _⟩
 have HX := hide h1
 have HP := hide (BxP.mk (SpPost.refl h1.sp) h1.box hlo (by simp))
 have HM := hide (show MayC s p 0 from .inr ⟨.inr (.inr (.inr ⟨hm, hn, hr, rfl⟩)), .inr ⟨hK, rfl⟩⟩)
 have HA := hide (And.intro hm (And.intro hn (And.intro hr hK)))
 have HN := hide (pk_may_num hm)
 have HB := hide h1.below
 clear h h1 hm hn hr hK hlo HX
 obtain ⟨pn, pt, psz, pe, pf, pc⟩ := p
 dsimp only at HP HA HN
 unfold pkA
 dsimp only
 obtain ⟨y0, y1, x0, x1, x2, x3, x4, x5⟩ := HP.out.seven
 dsimp only at x0 x1 x2 x3 x4 x5
 go_enter Tryz.func25, Tryz.ntmps25
 go_wp2_with fail
 refine (spmay_any f s ⟨pn, pt, psz, pe, pf, pc⟩ 0 _ HP.out.post.sp HM.out).mono ?_
 rintro e1 w1 ⟨rfl, hb⟩
 have HP1 := hide (HP.out.later hb)
 clear y0 y1 x0 x1 x2 x3 x4 x5 HP hb
 obtain ⟨y0, y1, x0, x1, x2, x3, x4, x5⟩ := HP1.out.seven
 dsimp only at x0 x1 x2 x3 x4 x5
 go_wp2_with fail
 refine wp_region_S (fun w' => w'.cell? ⟨f.b, 0, none⟩ = some (.pointer (some ⟨f.lb, 0, none⟩)) ∧ w'.cell? ⟨f.b, 1, none⟩ = some (.pointer (some ⟨f.kb, 0, none⟩)) ∧ w'.cell? ⟨w.heap.size, 0, none⟩ = some (ZI ZQ pn) ∧ w'.cell? ⟨w.heap.size, 1, none⟩ = some (ZI ZQ pt) ∧ w'.cell? ⟨w.heap.size, 2, none⟩ = some (ZI ZQ psz) ∧ w'.cell? ⟨w.heap.size, 3, none⟩ = some (.bool pe) ∧ w'.cell? ⟨w.heap.size, 4, none⟩ = some (.bool pf) ∧ w'.cell? ⟨w.heap.size, 5, none⟩ = some (.bool pc)) 1000 (by kernel_rfl) (by exact ⟨y0, y1, x0, x1, x2, x3, x4, x5⟩) (fun hHeld => ?_)
 refine tsP 0 ?_ rfl ?_ ?_
 rotate_left
 ·intro w hSw; (try dsimp only at hSw); go_simp; try with_reducible rfl
 try simp only [ZP, ZA, ZC, ZB, ZD, ZE, ZF]
 refine tsP 1 ?_ rfl ?_ ?_
 rotate_left
 ·intro w hSw; (try dsimp only at hSw); go_simp; try with_reducible rfl
 try simp only [ZP, ZA, ZC, ZB, ZD, ZE, ZF]
 refine tsP 2 ?_ rfl ?_ ?_
 rotate_left
 ·intro w hSw; (try dsimp only at hSw); go_simp; try with_reducible rfl
 try simp only [ZP, ZA, ZC, ZB, ZD, ZE, ZF]
 refine tsP 3 ?_ rfl ?_ ?_
 rotate_left
 ·intro w hSw; (try dsimp only at hSw); go_simp; try with_reducible rfl
 try simp only [ZP, ZA, ZC, ZB, ZD, ZE, ZF]
 refine tsP 4 ?_ rfl ?_ ?_
 rotate_left
 ·intro w hSw; (try dsimp only at hSw); go_simp; try with_reducible rfl
 try simp only [ZP, ZA, ZC, ZB, ZD, ZE, ZF]
 refine wpAnyS_one (i := 5) rfl (by kernel_rfl) (fun K hK => ?_)
 go_simp; go_at_call 62; refine (put_ok _ _ _ _ _ _ _ _ _ _ _ _ (SpPost.sp (BxP.post (by first | exact HP1.out | exact HP1.out.drew))).log HA.out.1 HA.out.2.1 HA.out.2.2.1).mono ?_; rintro e2 w2 ⟨rfl, rb2, hl2, hr2, ho2⟩; have HP2 := hide (BxP.step (by first | exact HP1.out | exact HP1.out.drew) (IsSp.turnLog (SpPost.sp (BxP.post (by first | exact HP1.out | exact HP1.out.drew))) hl2 hr2 ho2)); clear hl2 hr2 ho2
 refine hK.out _ _ (fun _ => HP2.out.seven) (fun hH => ?_)
 have hHeld := hH rfl
 clear hK K hH
 try simp only [ZP, ZA, ZC, ZB, ZD, ZE, ZF]
 refine wpAnyS_done (by kernel_rfl) ?_ _
 clear y0 y1 x0 x1 x2 x3 x4 x5 hHeld HP1
 obtain ⟨y0, y1, x0, x1, x2, x3, x4, x5⟩ := HP2.out.seven
 dsimp only at y0 y1 x0 x1 x2 x3 x4 x5
 go_wp2_with fail
 refine wp_region_S (fun w' => w'.cell? ⟨f.b, 0, none⟩ = some (.pointer (some ⟨f.lb, 0, none⟩)) ∧ w'.cell? ⟨f.b, 1, none⟩ = some (.pointer (some ⟨f.kb, 0, none⟩)) ∧ w'.cell? ⟨w.heap.size, 0, none⟩ = some (ZI ZQ pn) ∧ w'.cell? ⟨w.heap.size, 1, none⟩ = some (ZI ZQ pt) ∧ w'.cell? ⟨w.heap.size, 2, none⟩ = some (ZI ZQ psz) ∧ w'.cell? ⟨w.heap.size, 3, none⟩ = some (.bool pe) ∧ w'.cell? ⟨w.heap.size, 4, none⟩ = some (.bool pf) ∧ w'.cell? ⟨w.heap.size, 5, none⟩ = some (.bool pc)) 1000 (by kernel_rfl) (by exact ⟨y0, y1, x0, x1, x2, x3, x4, x5⟩) (fun hHeld => ?_)
 refine tsP 0 ?_ rfl ?_ ?_
 rotate_left
 ·intro w hSw; (try dsimp only at hSw); go_simp; try with_reducible rfl
 try simp only [ZP, ZA, ZC, ZB, ZD, ZE, ZF]
 refine tsP 1 ?_ rfl ?_ ?_
 rotate_left
 ·intro w hSw; (try dsimp only at hSw); go_simp; try with_reducible rfl
 try simp only [ZP, ZA, ZC, ZB, ZD, ZE, ZF]
 refine tsP 2 ?_ rfl ?_ ?_
 rotate_left
 ·intro w hSw; (try dsimp only at hSw); go_simp; try with_reducible rfl
 try simp only [ZP, ZA, ZC, ZB, ZD, ZE, ZF]
 refine tsP 3 ?_ rfl ?_ ?_
 rotate_left
 ·intro w hSw; (try dsimp only at hSw); go_simp; try with_reducible rfl
 try simp only [ZP, ZA, ZC, ZB, ZD, ZE, ZF]
 refine tsP 4 ?_ rfl ?_ ?_
 rotate_left
 ·intro w hSw; (try dsimp only at hSw); go_simp; try with_reducible rfl
 try simp only [ZP, ZA, ZC, ZB, ZD, ZE, ZF]
 refine tsP 5 ?_ rfl ?_ ?_
 rotate_left
 ·intro w hSw; (try dsimp only at hSw); go_simp; try with_reducible rfl
 try simp only [ZP, ZA, ZC, ZB, ZD, ZE, ZF]
 refine tsP 6 ?_ rfl ?_ ?_
 rotate_left
 ·intro w hSw; (try dsimp only at hSw); go_simp; try with_reducible rfl
 try simp only [ZP, ZA, ZC, ZB, ZD, ZE, ZF]
 refine tsP 7 ?_ rfl ?_ ?_
 rotate_left
 ·intro w hSw; (try dsimp only at hSw); go_simp; try with_reducible rfl
 try simp only [ZP, ZA, ZC, ZB, ZD, ZE, ZF]
 refine wpAnyS_one (i := 8) rfl (by kernel_rfl) (fun K hK => ?_)
 go_simp; go_at_call 63; refine (add_ok f.kb f.kg 256 pn pn s.K _ (by first | exact HP2.out.post.sp.kn | exact HP2.out.drew.post.sp.kn) HN.out.1 (Int.le_refl _) HN.out.2 HA.out.2.2.2).mono ?_; rintro e3 w3 ⟨rfl, g3, hk3, hg3, ho3⟩; have HP3 := hide (BxP.step (f' := ⟨f.b, f.lb, rb2, f.kb, f.kg, f.mb, f.mg⟩) (s' := { s with last := pn, ps := s.ps ++ [⟨pn, pt, psz, pe, pf, pc⟩] }) (by first | exact HP2.out | exact HP2.out.drew) (IsSp.turnKn (f := ⟨f.b, f.lb, rb2, f.kb, f.kg, f.mb, f.mg⟩) (s := { s with last := pn, ps := s.ps ++ [⟨pn, pt, psz, pe, pf, pc⟩] }) (by first | exact HP2.out.post.sp | exact HP2.out.drew.post.sp) hk3 hg3 ho3)); clear hk3 hg3 ho3
 refine hK.out _ _ (fun _ => HP3.out.seven) (fun hH => ?_)
 have hHeld := hH rfl
 clear hK K hH
 try simp only [ZP, ZA, ZC, ZB, ZD, ZE, ZF]
 refine wpAnyS_done (by kernel_rfl) ?_ _
 clear y0 y1 x0 x1 x2 x3 x4 x5 hHeld HP2
 obtain ⟨y0, y1, x0, x1, x2, x3, x4, x5⟩ := HP3.out.seven
 dsimp only at y0 y1 x0 x1 x2 x3 x4 x5
 have z5 : w3.cell? ⟨f.b, 5, none⟩ = some (ZI ZQ s.time) := HP3.out.post.sp.blk.cell 5
 have f5 : w3.frozen? ⟨f.b, 5, none⟩ = false := HP3.out.post.sp.blk.frozen 5
 cases pf <;> cases pe
 all_goals
  go_wp2_with fail
  go_ret
  first
  | exact ⟨rfl, _, SpPost.ahead HB.out HP3.out.post⟩
  | exact ⟨rfl, _, SpPost.ahead HB.out (HP3.out.post.trans (HP3.out.post.sp.turnOwn (j := 5) (u := ZI ZQ pt) (great := s.great) (loss := s.loss) (time := pt) rfl))⟩
end Go.Proofs.YtgicljeedegncaaGreat
