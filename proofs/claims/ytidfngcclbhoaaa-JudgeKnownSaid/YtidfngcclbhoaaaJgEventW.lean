/-
 Layer 24 (judge): event: its walk (window). Printed by wip/genevw.py.
-/
import Derived.Test.YtidfngcclbhoaaaJgEvent
import Derived.Deep.RegionHeld3
namespace Go.Proofs.Ytidfngcclbhoaaa
open List renaming getElem_toArray → ZA, getElem_cons_zero → ZB, getElem_cons_succ → ZC, setIfInBounds_toArray → ZD, set_cons_zero → ZE, set_cons_succ → ZF, getElem?_toArray → ZG, getElem?_cons_zero → ZH, getElem?_cons_succ → ZJ
open Go.AllReadyH renaming cons → ZS, nil → ZN
open Go.Act renaming put → ZP
open Go.Value renaming int → ZI
open Go.IntKind renaming i64 → ZQ
set_option linter.unusedSimpArgs false
set_option linter.unusedVariables false
open Go.RowKit Go.Shelf
theorem RowCells {W : World} {R : Nat} {kind rt rsp rsize osp onum osize delay e0 e1 e2 err smooth : Int} {oel ofl opr oect marked : Bool} {ra ea : Option Addr} {rn rc en ec : Nat} (h : Blk W R 36 (rwC ⟨kind, rt, rsp, rsize, ⟨osp, onum, osize, oel, ofl, opr, oect⟩, delay, ra, rn, rc, marked, e0, e1, e2, ea, en, ec, err, smooth⟩)) :
  W.cell? ⟨R, 0, none⟩ = some (ZI ZQ kind) ∧ W.cell? ⟨R, 1, none⟩ = some (ZI ZQ rt) ∧ W.cell? ⟨R, 2, none⟩ = some (ZI ZQ rsp) ∧ W.cell? ⟨R, 3, none⟩ = some (ZI ZQ rsize) ∧ W.cell? ⟨R, 4, none⟩ = some (ZI ZQ osp) ∧ W.cell? ⟨R, 5, none⟩ = some (ZI ZQ onum) ∧ W.cell? ⟨R, 6, none⟩ = some (ZI ZQ osize) ∧ W.cell? ⟨R, 7, none⟩ = some (.bool oel) ∧ W.cell? ⟨R, 8, none⟩ = some (.bool ofl) ∧ W.cell? ⟨R, 9, none⟩ = some (.bool opr) ∧ W.cell? ⟨R, 10, none⟩ = some (.bool oect) ∧ W.cell? ⟨R, 11, none⟩ = some (ZI ZQ delay) ∧ W.cell? ⟨R, 12, none⟩ = some (.slice ra rn rc) ∧ W.cell? ⟨R, 13, none⟩ = some (.bool marked) ∧ W.cell? ⟨R, 14, none⟩ = some (ZI ZQ e0) ∧ W.cell? ⟨R, 15, none⟩ = some (ZI ZQ e1) ∧ W.cell? ⟨R, 16, none⟩ = some (ZI ZQ e2) ∧ W.cell? ⟨R, 17, none⟩ = some (.slice ea en ec) ∧ W.cell? ⟨R, 18, none⟩ = some (ZI ZQ err) ∧ W.cell? ⟨R, 19, none⟩ = some (ZI ZQ smooth) := ⟨h.cell 0, h.cell 1, h.cell 2, h.cell 3, h.cell 4, h.cell 5, h.cell 6, h.cell 7, h.cell 8, h.cell 9, h.cell 10, h.cell 11, h.cell 12, h.cell 13, h.cell 14, h.cell 15, h.cell 16, h.cell 17, h.cell 18, h.cell 19⟩
theorem EvC4 {w W : World} {b base : Nat} {k : KN} {vf vp vd : Value} {R X : Nat} {r : RW} {e : EVJ} {rs : List RGJ} (h : EvSt w W b base k vf vp vd R X r e rs) : W.cell? ⟨X, 3, none⟩ = some (ZI ZQ e.n) ∧ W.cell? ⟨b, 1, none⟩ = some (ZI ZQ k.c.d) ∧ W.cell? ⟨b, 3, none⟩ = some (ZI ZQ k.c.most) ∧ W.cell? ⟨b, 11, none⟩ = some (ZI ZQ k.window) := ⟨h.ev.cell 3, h.kn.blk.cell 1, h.kn.blk.cell 3, h.kn.blk.cell 11⟩
theorem EvSt.drew {w W : World} {b base : Nat} {k : KN} {vf vp vd : Value} {R X : Nat} {r : RW} {e : EVJ} {rs : List RGJ} (h : EvSt w W b base k vf vp vd R X r e rs) : EvSt w W.drew b base k vf vp vd R X r e rs := h.later (below_drewN (Below.refl _ _) 1)
set_option maxRecDepth 100000 in
set_option maxHeartbeats 8000000 in
theorem event_window (b base : Nat) (k : KN) (vf vp vd : Value) (r : RW) (rs : List RGJ) (e : EVJ) (w : World) (hK : KnAt w b base k vf vp vd) (hR : LieAt rgL 2 w base r.ra rs) (hrn : rs.length = r.rn) (hrl : r.rn ≤ 2000) (hfn : k.flying.length ≤ 2000) (hk : e.kind = 4) (hcd : 0 ≤ k.c.d ∧ k.c.d ≤ 65527) :
  Calls Try.prog 32 #[.pointer (some ⟨b, 0, none⟩), .agg (rwC r), .agg #[ZI ZQ e.kind, ZI ZQ e.sp, ZI ZQ e.num, ZI ZQ e.n]] w (StepPost b base w (eventP k r rs e)) := by
 obtain ⟨A, c, rfl⟩ := own_sl hK.fl
 obtain ⟨kind, rt, rsp, rsize, ⟨osp, onum, osize, oel, ofl, opr, oect⟩, delay, ra, rn, rc, marked, e0, e1, e2, ea, en, ec, err, smooth⟩ := r
 obtain ⟨ek, es, em, ee⟩ := e
 simp only at hR hrn hrl hk ⊢
 subst hk
 obtain ⟨res, hres⟩ : ∃ x, eventP k ⟨kind, rt, rsp, rsize, ⟨osp, onum, osize, oel, ofl, opr, oect⟩, delay, ra, rn, rc, marked, e0, e1, e2, ea, en, ec, err, smooth⟩ rs ⟨4, es, em, ee⟩ = x := ⟨_, rfl⟩
 rw [hres]
 have HRES := hide hres
 clear hres
 have hge := hK.ge
 have hbb : base ≤ w.heap.size := Nat.le_of_lt (Nat.lt_of_le_of_lt hK.ge hK.blk.lt)
 unfold rwC
 have ha : Below w.heap.size w ((w.alloc (.cells #[ZI ZQ kind, ZI ZQ rt, ZI ZQ rsp, ZI ZQ rsize, ZI ZQ osp, ZI ZQ onum, ZI ZQ osize, .bool oel, .bool ofl, .bool opr, .bool oect, ZI ZQ delay, .slice ra rn rc, .bool marked, ZI ZQ e0, ZI ZQ e1, ZI ZQ e2, .slice ea en ec, ZI ZQ err, ZI ZQ smooth] 36)).alloc (.cells #[ZI ZQ 4, ZI ZQ es, ZI ZQ em, ZI ZQ ee] 46)) := ((Below.refl _ _).alloc (Nat.le_refl _) _).alloc (by simp) _
 have hs0 : EvSt w ((w.alloc (.cells #[ZI ZQ kind, ZI ZQ rt, ZI ZQ rsp, ZI ZQ rsize, ZI ZQ osp, ZI ZQ onum, ZI ZQ osize, .bool oel, .bool ofl, .bool opr, .bool oect, ZI ZQ delay, .slice ra rn rc, .bool marked, ZI ZQ e0, ZI ZQ e1, ZI ZQ e2, .slice ea en ec, ZI ZQ err, ZI ZQ smooth] 36)).alloc (.cells #[ZI ZQ 4, ZI ZQ es, ZI ZQ em, ZI ZQ ee] 46)) b base k (.slice A k.flying.length c) vp vd w.heap.size (w.heap.size + 1) ⟨kind, rt, rsp, rsize, ⟨osp, onum, osize, oel, ofl, opr, oect⟩, delay, ra, rn, rc, marked, e0, e1, e2, ea, en, ec, err, smooth⟩ ⟨4, es, em, ee⟩ rs := by
  refine ⟨hK.later ha, (Blk.new _ _ _).alloc _, ?_, hR.later (ha.mono hbb), Far.of_below ha hbb⟩
  have := Blk.new (w.alloc (.cells #[ZI ZQ kind, ZI ZQ rt, ZI ZQ rsp, ZI ZQ rsize, ZI ZQ osp, ZI ZQ onum, ZI ZQ osize, .bool oel, .bool ofl, .bool opr, .bool oect, ZI ZQ delay, .slice ra rn rc, .bool marked, ZI ZQ e0, ZI ZQ e1, ZI ZQ e2, .slice ea en ec, ZI ZQ err, ZI ZQ smooth] 36)) 46 #[ZI ZQ 4, ZI ZQ es, ZI ZQ em, ZI ZQ ee]
  simpa using this
 obtain ⟨W1, hW1⟩ : ∃ x, (w.alloc (.cells #[ZI ZQ kind, ZI ZQ rt, ZI ZQ rsp, ZI ZQ rsize, ZI ZQ osp, ZI ZQ onum, ZI ZQ osize, .bool oel, .bool ofl, .bool opr, .bool oect, ZI ZQ delay, .slice ra rn rc, .bool marked, ZI ZQ e0, ZI ZQ e1, ZI ZQ e2, .slice ea en ec, ZI ZQ err, ZI ZQ smooth] 36)).alloc (.cells #[ZI ZQ 4, ZI ZQ es, ZI ZQ em, ZI ZQ ee] 46) = x := ⟨_, rfl⟩
 obtain ⟨R, hRr⟩ : ∃ x, w.heap.size = x := ⟨_, rfl⟩
 have HPL := hide (fun W h => place_any b base k (.slice A k.flying.length c) vp vd ⟨4, es, em, ee⟩ W h hfn)
 obtain ⟨n, hn⟩ : ∃ x, idxF (atP ⟨4, es, em, ee⟩) k.flying 0 = x := ⟨_, rfl⟩
 rw [hn] at HPL
 have HN := hide hn
 have HY := hide (fun rule W => unless_yes rule W)
 have HNO := hide (fun rule W => unless_no rule W)
 go_enter Try.func32, Try.ntmps32
 go_upto_region 1 with (fail)
 rw [hW1, hRr] at hs0
 try rw [hW1]
 try rw [hRr]
 have HS1 := hide hs0
 have x0 := hs0.ev.cell 0
 have x1 := hs0.ev.cell 1
 have x2 := hs0.ev.cell 2
 have x3 := hs0.ev.cell 3
 simp only [ZG, ZH, ZJ] at x0 x1 x2 x3
 clear hs0 hW1 ha hR hRr hn
 go_wp2_with fail
 with_reducible refine (HPL.out _ HS1.out.kn).mono ?_
 rintro y1 W2 ⟨rfl, hb1⟩
 have hs2 := HS1.out.later hb1
 have HS2 := hide hs2
 clear HS1 x0 x1 x2 x3 hb1 HPL
 have x0 := hs2.ev.cell 0
 have x1 := hs2.ev.cell 1
 have x2 := hs2.ev.cell 2
 have x3 := hs2.ev.cell 3
 have r0 := hs2.row.cell 0
 have r1 := hs2.row.cell 1
 have r2 := hs2.row.cell 2
 have r12 := hs2.row.cell 12
 simp only [rwC, ZG, ZH, ZJ] at x0 x1 x2 x3 r0 r1 r2 r12
 clear hs2
 have HTI := hide (fun W => timed_any ⟨kind, rt, rsp, rsize, ⟨osp, onum, osize, oel, ofl, opr, oect⟩, delay, ra, rn, rc, marked, e0, e1, e2, ea, en, ec, err, smooth⟩ W)
 have hwf : IntKind.i64.wrap (2 * k.c.d) = 2 * k.c.d := IntWalk.i64_in _ ⟨by omega, by omega⟩
 clear x1 x2 r1 r2 r12 HN r0 x3
 cases h1 : timedB ⟨kind, rt, rsp, rsize, ⟨osp, onum, osize, oel, ofl, opr, oect⟩, delay, ra, rn, rc, marked, e0, e1, e2, ea, en, ec, err, smooth⟩ with
 | false =>
  rw [h1] at HTI
  have H1 := hide h1
  clear h1
  go_wp2_with fail
  refine wp_region_held_drew (S := (fun w' => EvSt w w' b base k (.slice A k.flying.length c) vp vd R (R + 1) ⟨kind, rt, rsp, rsize, ⟨osp, onum, osize, oel, ofl, opr, oect⟩, delay, ra, rn, rc, marked, e0, e1, e2, ea, en, ec, err, smooth⟩ ⟨4, es, em, ee⟩ rs)) (by kernel_rfl) (HS2.out.drew) (fun hHeld => ?_)
  refine tkR [0] ?_
  refine ZS rfl (fun K hK => ?_) ZN
  rw [if_pos (by rfl)]
  refine wp_load_row 36 (.tmp 4) rfl R rfl 36 (rwC ⟨kind, rt, rsp, rsize, ⟨osp, onum, osize, oel, ofl, opr, oect⟩, delay, ra, rn, rc, marked, e0, e1, e2, ea, en, ec, err, smooth⟩) (0, 0) _ HS2.out.drew.row Try.underlying36 rfl row_size ?_
  refine hK.out _ _ (HS2.out.drew) (fun hHeld => ?_)
  clear hK K
  try simp only [ZP, ZA, ZB, ZC, ZD, ZE, ZF]
  refine tkR [1] ?_
  refine ZS rfl (fun K hK => ?_) ZN
  go_simp
  go_at_call 33
  with_reducible refine (HTI.out _).mono ?_
  rintro y1 u1 ⟨rfl, hB1⟩
  refine hK.out _ _ (hHeld.later hB1) (fun hHeld => ?_)
  clear hK K
  try simp only [ZP, ZA, ZB, ZC, ZD, ZE, ZF]
  refine tkH 2 ?_ rfl blB ?_ ?_
  rotate_left
  ·intro w' hSw; (try dsimp only at hSw); obtain ⟨c3, cb1, cb3, cb11⟩ := EvC4 hSw; go_simp; try with_reducible rfl
  try simp only [ZP, ZA, ZB, ZC, ZD, ZE, ZF]
  refine tkU 3 rfl blB ?_
  try simp only [ZP, ZA, ZB, ZC, ZD, ZE, ZF]
  refine tkU 4 rfl blB ?_
  try simp only [ZP, ZA, ZB, ZC, ZD, ZE, ZF]
  refine tkU 5 rfl blB ?_
  try simp only [ZP, ZA, ZB, ZC, ZD, ZE, ZF]
  refine tkU 6 rfl blB ?_
  try simp only [ZP, ZA, ZB, ZC, ZD, ZE, ZF]
  refine tkU 7 rfl blB ?_
  try simp only [ZP, ZA, ZB, ZC, ZD, ZE, ZF]
  refine tkU 8 rfl blB ?_
  try simp only [ZP, ZA, ZB, ZC, ZD, ZE, ZF]
  refine tkU 9 rfl blB ?_
  try simp only [ZP, ZA, ZB, ZC, ZD, ZE, ZF]
  refine tkU 10 rfl blB ?_
  try simp only [ZP, ZA, ZB, ZC, ZD, ZE, ZF]
  refine tkU 11 rfl blB ?_
  try simp only [ZP, ZA, ZB, ZC, ZD, ZE, ZF]
  refine tkH 12 ?_ rfl blB ?_ ?_
  rotate_left
  ·intro w' hSw; (try dsimp only at hSw); obtain ⟨c3, cb1, cb3, cb11⟩ := EvC4 hSw; go_simp; try with_reducible rfl
  try simp only [ZP, ZA, ZB, ZC, ZD, ZE, ZF]
  refine tkH 13 ?_ rfl blB ?_ ?_
  rotate_left
  ·intro w' hSw; (try dsimp only at hSw); obtain ⟨c3, cb1, cb3, cb11⟩ := EvC4 hSw; go_simp; try with_reducible rfl
  try simp only [ZP, ZA, ZB, ZC, ZD, ZE, ZF]
  refine tkU 14 rfl blB ?_
  try simp only [ZP, ZA, ZB, ZC, ZD, ZE, ZF]
  refine tkU 15 rfl blB ?_
  try simp only [ZP, ZA, ZB, ZC, ZD, ZE, ZF]
  refine tkU 16 rfl blB ?_
  try simp only [ZP, ZA, ZB, ZC, ZD, ZE, ZF]
  refine tkU 17 rfl blB ?_
  try simp only [ZP, ZA, ZB, ZC, ZD, ZE, ZF]
  refine tkU 18 rfl blB ?_
  try simp only [ZP, ZA, ZB, ZC, ZD, ZE, ZF]
  refine tkU 19 rfl blB ?_
  try simp only [ZP, ZA, ZB, ZC, ZD, ZE, ZF]
  refine tkU 20 rfl blB ?_
  try simp only [ZP, ZA, ZB, ZC, ZD, ZE, ZF]
  refine tkU 21 rfl blB ?_
  try simp only [ZP, ZA, ZB, ZC, ZD, ZE, ZF]
  refine tkH 22 ?_ rfl blB ?_ ?_
  rotate_left
  ·intro w' hSw; (try dsimp only at hSw); obtain ⟨c3, cb1, cb3, cb11⟩ := EvC4 hSw; go_simp; try with_reducible rfl
  try simp only [ZP, ZA, ZB, ZC, ZD, ZE, ZF]
  refine tkH 23 ?_ rfl blB ?_ ?_
  rotate_left
  ·intro w' hSw; (try dsimp only at hSw); obtain ⟨c3, cb1, cb3, cb11⟩ := EvC4 hSw; go_simp; try with_reducible rfl
  try simp only [ZP, ZA, ZB, ZC, ZD, ZE, ZF]
  refine tkU 24 rfl blB ?_
  try simp only [ZP, ZA, ZB, ZC, ZD, ZE, ZF]
  refine tkU 25 rfl blB ?_
  try simp only [ZP, ZA, ZB, ZC, ZD, ZE, ZF]
  refine tkU 26 rfl blB ?_
  try simp only [ZP, ZA, ZB, ZC, ZD, ZE, ZF]
  refine tkU 27 rfl blB ?_
  try simp only [ZP, ZA, ZB, ZC, ZD, ZE, ZF]
  refine tkU 28 rfl blB ?_
  try simp only [ZP, ZA, ZB, ZC, ZD, ZE, ZF]
  refine tkU 29 rfl blB ?_
  try simp only [ZP, ZA, ZB, ZC, ZD, ZE, ZF]
  refine tkU 30 rfl blB ?_
  try simp only [ZP, ZA, ZB, ZC, ZD, ZE, ZF]
  refine tkH 31 ?_ rfl blB ?_ ?_
  rotate_left
  ·intro w' hSw; (try dsimp only at hSw); obtain ⟨c3, cb1, cb3, cb11⟩ := EvC4 hSw; go_simp; try with_reducible rfl
  try simp only [ZP, ZA, ZB, ZC, ZD, ZE, ZF]
  refine tkR [32] ?_
  refine ZS rfl (fun K hK => ?_) ZN
  go_simp
  go_at_call 23
  with_reducible refine (HNO.out _ _).mono ?_
  rintro y2 u2 ⟨rfl, rfl⟩
  exact ⟨rfl, StepPost.err (by rw [← HRES.out]; simp [eventP, H1.out]) hHeld.bl⟩
 | true =>
  rw [h1] at HTI
  have H1 := hide h1
  clear h1
  by_cases h2 : 2 * k.c.d ≤ ee
  ·have d2 : decide (2 * k.c.d ≤ ee) = true := decide_eq_true h2
   by_cases h3 : ee ≤ k.c.most
   ·have d3 : decide (ee ≤ k.c.most) = true := decide_eq_true h3
    cases h4 : (ee != k.window) with
    | false =>
     have H4 := hide (show ee = k.window by simpa using h4)
     go_wp2_with fail
     refine wp_region_held_drew (S := (fun w' => EvSt w w' b base k (.slice A k.flying.length c) vp vd R (R + 1) ⟨kind, rt, rsp, rsize, ⟨osp, onum, osize, oel, ofl, opr, oect⟩, delay, ra, rn, rc, marked, e0, e1, e2, ea, en, ec, err, smooth⟩ ⟨4, es, em, ee⟩ rs)) (by kernel_rfl) (HS2.out.drew) (fun hHeld => ?_)
     refine tkR [0] ?_
     refine ZS rfl (fun K hK => ?_) ZN
     rw [if_pos (by rfl)]
     refine wp_load_row 36 (.tmp 4) rfl R rfl 36 (rwC ⟨kind, rt, rsp, rsize, ⟨osp, onum, osize, oel, ofl, opr, oect⟩, delay, ra, rn, rc, marked, e0, e1, e2, ea, en, ec, err, smooth⟩) (0, 0) _ HS2.out.drew.row Try.underlying36 rfl row_size ?_
     refine hK.out _ _ (HS2.out.drew) (fun hHeld => ?_)
     clear hK K
     try simp only [ZP, ZA, ZB, ZC, ZD, ZE, ZF]
     refine tkR [1] ?_
     refine ZS rfl (fun K hK => ?_) ZN
     go_simp
     go_at_call 33
     with_reducible refine (HTI.out _).mono ?_
     rintro y1 u1 ⟨rfl, hB1⟩
     refine hK.out _ _ (hHeld.later hB1) (fun hHeld => ?_)
     clear hK K
     try simp only [ZP, ZA, ZB, ZC, ZD, ZE, ZF]
     refine tkH 2 ?_ rfl blB ?_ ?_
     rotate_left
     ·intro w' hSw; (try dsimp only at hSw); obtain ⟨c3, cb1, cb3, cb11⟩ := EvC4 hSw; go_simp; try with_reducible rfl
     try simp only [ZP, ZA, ZB, ZC, ZD, ZE, ZF]
     refine tkH 3 ?_ rfl blB ?_ ?_
     rotate_left
     ·intro w' hSw; (try dsimp only at hSw); obtain ⟨c3, cb1, cb3, cb11⟩ := EvC4 hSw; go_simp; try with_reducible rfl
     try simp only [ZP, ZA, ZB, ZC, ZD, ZE, ZF]
     refine tkH 4 ?_ rfl blB ?_ ?_
     rotate_left
     ·intro w' hSw; (try dsimp only at hSw); obtain ⟨c3, cb1, cb3, cb11⟩ := EvC4 hSw; go_simp; try with_reducible rfl
     try simp only [ZP, ZA, ZB, ZC, ZD, ZE, ZF]
     refine tkH 5 ?_ rfl blB ?_ ?_
     rotate_left
     ·intro w' hSw; (try dsimp only at hSw); obtain ⟨c3, cb1, cb3, cb11⟩ := EvC4 hSw; go_simp; try with_reducible rfl
     try simp only [ZP, ZA, ZB, ZC, ZD, ZE, ZF]
     refine tkH 6 ?_ rfl blB ?_ ?_
     rotate_left
     ·intro w' hSw; (try dsimp only at hSw); obtain ⟨c3, cb1, cb3, cb11⟩ := EvC4 hSw; go_simp; try with_reducible rfl
     try simp only [ZP, ZA, ZB, ZC, ZD, ZE, ZF]
     refine tkH 7 ?_ rfl blB ?_ ?_
     rotate_left
     ·intro w' hSw; (try dsimp only at hSw); obtain ⟨c3, cb1, cb3, cb11⟩ := EvC4 hSw; go_simp; try with_reducible rfl
     try simp only [ZP, ZA, ZB, ZC, ZD, ZE, ZF]
     refine tkH 8 ?_ rfl blB ?_ ?_
     rotate_left
     ·intro w' hSw; (try dsimp only at hSw); obtain ⟨c3, cb1, cb3, cb11⟩ := EvC4 hSw; go_simp; try with_reducible rfl
     try simp only [ZP, ZA, ZB, ZC, ZD, ZE, ZF]
     refine tkH 9 ?_ rfl blB ?_ ?_
     rotate_left
     ·intro w' hSw; (try dsimp only at hSw); obtain ⟨c3, cb1, cb3, cb11⟩ := EvC4 hSw; go_simp; try with_reducible rfl
     try simp only [ZP, ZA, ZB, ZC, ZD, ZE, ZF]
     refine tkH 10 ?_ rfl blB ?_ ?_
     rotate_left
     ·intro w' hSw; (try dsimp only at hSw); obtain ⟨c3, cb1, cb3, cb11⟩ := EvC4 hSw; go_simp; try with_reducible rfl
     try simp only [ZP, ZA, ZB, ZC, ZD, ZE, ZF]
     refine tkH 11 ?_ rfl blB ?_ ?_
     rotate_left
     ·intro w' hSw; (try dsimp only at hSw); obtain ⟨c3, cb1, cb3, cb11⟩ := EvC4 hSw; go_simp; try with_reducible rfl
     try simp only [ZP, ZA, ZB, ZC, ZD, ZE, ZF]
     refine tkH 12 ?_ rfl blB ?_ ?_
     rotate_left
     ·intro w' hSw; (try dsimp only at hSw); obtain ⟨c3, cb1, cb3, cb11⟩ := EvC4 hSw; go_simp; try with_reducible rfl
     try simp only [ZP, ZA, ZB, ZC, ZD, ZE, ZF]
     refine tkH 13 ?_ rfl blB ?_ ?_
     rotate_left
     ·intro w' hSw; (try dsimp only at hSw); obtain ⟨c3, cb1, cb3, cb11⟩ := EvC4 hSw; go_simp; try with_reducible rfl
     try simp only [ZP, ZA, ZB, ZC, ZD, ZE, ZF]
     refine tkH 14 ?_ rfl blB ?_ ?_
     rotate_left
     ·intro w' hSw; (try dsimp only at hSw); obtain ⟨c3, cb1, cb3, cb11⟩ := EvC4 hSw; go_simp; try with_reducible rfl
     try simp only [ZP, ZA, ZB, ZC, ZD, ZE, ZF]
     refine tkH 15 ?_ rfl blB ?_ ?_
     rotate_left
     ·intro w' hSw; (try dsimp only at hSw); obtain ⟨c3, cb1, cb3, cb11⟩ := EvC4 hSw; go_simp; try with_reducible rfl
     try simp only [ZP, ZA, ZB, ZC, ZD, ZE, ZF]
     refine tkH 16 ?_ rfl blB ?_ ?_
     rotate_left
     ·intro w' hSw; (try dsimp only at hSw); obtain ⟨c3, cb1, cb3, cb11⟩ := EvC4 hSw; go_simp; try with_reducible rfl
     try simp only [ZP, ZA, ZB, ZC, ZD, ZE, ZF]
     refine tkH 17 ?_ rfl blB ?_ ?_
     rotate_left
     ·intro w' hSw; (try dsimp only at hSw); obtain ⟨c3, cb1, cb3, cb11⟩ := EvC4 hSw; go_simp; try with_reducible rfl
     try simp only [ZP, ZA, ZB, ZC, ZD, ZE, ZF]
     refine tkH 18 ?_ rfl blB ?_ ?_
     rotate_left
     ·intro w' hSw; (try dsimp only at hSw); obtain ⟨c3, cb1, cb3, cb11⟩ := EvC4 hSw; go_simp; try with_reducible rfl
     try simp only [ZP, ZA, ZB, ZC, ZD, ZE, ZF]
     refine tkH 19 ?_ rfl blB ?_ ?_
     rotate_left
     ·intro w' hSw; (try dsimp only at hSw); obtain ⟨c3, cb1, cb3, cb11⟩ := EvC4 hSw; go_simp; try with_reducible rfl
     try simp only [ZP, ZA, ZB, ZC, ZD, ZE, ZF]
     refine tkH 20 ?_ rfl blB ?_ ?_
     rotate_left
     ·intro w' hSw; (try dsimp only at hSw); obtain ⟨c3, cb1, cb3, cb11⟩ := EvC4 hSw; go_simp; try with_reducible rfl
     try simp only [ZP, ZA, ZB, ZC, ZD, ZE, ZF]
     refine tkH 21 ?_ rfl blB ?_ ?_
     rotate_left
     ·intro w' hSw; (try dsimp only at hSw); obtain ⟨c3, cb1, cb3, cb11⟩ := EvC4 hSw; go_simp; try with_reducible rfl
     try simp only [ZP, ZA, ZB, ZC, ZD, ZE, ZF]
     refine tkH 22 ?_ rfl blB ?_ ?_
     rotate_left
     ·intro w' hSw; (try dsimp only at hSw); obtain ⟨c3, cb1, cb3, cb11⟩ := EvC4 hSw; go_simp; try with_reducible rfl
     try simp only [ZP, ZA, ZB, ZC, ZD, ZE, ZF]
     refine tkH 23 ?_ rfl blB ?_ ?_
     rotate_left
     ·intro w' hSw; (try dsimp only at hSw); obtain ⟨c3, cb1, cb3, cb11⟩ := EvC4 hSw; go_simp; try with_reducible rfl
     try simp only [ZP, ZA, ZB, ZC, ZD, ZE, ZF]
     refine tkH 24 ?_ rfl blB ?_ ?_
     rotate_left
     ·intro w' hSw; (try dsimp only at hSw); obtain ⟨c3, cb1, cb3, cb11⟩ := EvC4 hSw; go_simp; try with_reducible rfl
     try simp only [ZP, ZA, ZB, ZC, ZD, ZE, ZF]
     refine tkH 25 ?_ rfl blB ?_ ?_
     rotate_left
     ·intro w' hSw; (try dsimp only at hSw); obtain ⟨c3, cb1, cb3, cb11⟩ := EvC4 hSw; go_simp; try with_reducible rfl
     try simp only [ZP, ZA, ZB, ZC, ZD, ZE, ZF]
     refine tkH 26 ?_ rfl blB ?_ ?_
     rotate_left
     ·intro w' hSw; (try dsimp only at hSw); obtain ⟨c3, cb1, cb3, cb11⟩ := EvC4 hSw; go_simp; try with_reducible rfl
     try simp only [ZP, ZA, ZB, ZC, ZD, ZE, ZF]
     refine tkH 27 ?_ rfl blB ?_ ?_
     rotate_left
     ·intro w' hSw; (try dsimp only at hSw); obtain ⟨c3, cb1, cb3, cb11⟩ := EvC4 hSw; go_simp; try with_reducible rfl
     try simp only [ZP, ZA, ZB, ZC, ZD, ZE, ZF]
     refine tkH 28 ?_ rfl blB ?_ ?_
     rotate_left
     ·intro w' hSw; (try dsimp only at hSw); obtain ⟨c3, cb1, cb3, cb11⟩ := EvC4 hSw; go_simp; try with_reducible rfl
     try simp only [ZP, ZA, ZB, ZC, ZD, ZE, ZF]
     refine tkH 29 ?_ rfl blB ?_ ?_
     rotate_left
     ·intro w' hSw; (try dsimp only at hSw); obtain ⟨c3, cb1, cb3, cb11⟩ := EvC4 hSw; go_simp; try with_reducible rfl
     try simp only [ZP, ZA, ZB, ZC, ZD, ZE, ZF]
     refine tkH 30 ?_ rfl blB ?_ ?_
     rotate_left
     ·intro w' hSw; (try dsimp only at hSw); obtain ⟨c3, cb1, cb3, cb11⟩ := EvC4 hSw; go_simp; try with_reducible rfl
     try simp only [ZP, ZA, ZB, ZC, ZD, ZE, ZF]
     refine tkH 31 ?_ rfl blB ?_ ?_
     rotate_left
     ·intro w' hSw; (try dsimp only at hSw); obtain ⟨c3, cb1, cb3, cb11⟩ := EvC4 hSw; go_simp; try with_reducible rfl
     try simp only [ZP, ZA, ZB, ZC, ZD, ZE, ZF]
     refine tkR [32] ?_
     refine ZS rfl (fun K hK => ?_) ZN
     go_simp
     go_at_call 23
     with_reducible refine (HNO.out _ _).mono ?_
     rintro y2 u2 ⟨rfl, rfl⟩
     exact ⟨rfl, StepPost.err (by rw [← HRES.out]; simp [eventP, H1.out, h2, h3, h4, H4.out]) hHeld.bl⟩
    | true =>
     have hz : res = .ok { k with window := ee } := by
      rw [← HRES.out]
      have h4' : ¬ ee = k.window := by simpa using h4
      simp [eventP, H1.out, h2, h3, h4']
     have HZ := hide hz
     clear hz
     go_wp2_with fail
     refine wp_region_held_drew (S := (fun w' => EvSt w w' b base k (.slice A k.flying.length c) vp vd R (R + 1) ⟨kind, rt, rsp, rsize, ⟨osp, onum, osize, oel, ofl, opr, oect⟩, delay, ra, rn, rc, marked, e0, e1, e2, ea, en, ec, err, smooth⟩ ⟨4, es, em, ee⟩ rs)) (by kernel_rfl) (HS2.out.drew) (fun hHeld => ?_)
     refine tkR [0] ?_
     refine ZS rfl (fun K hK => ?_) ZN
     rw [if_pos (by rfl)]
     refine wp_load_row 36 (.tmp 4) rfl R rfl 36 (rwC ⟨kind, rt, rsp, rsize, ⟨osp, onum, osize, oel, ofl, opr, oect⟩, delay, ra, rn, rc, marked, e0, e1, e2, ea, en, ec, err, smooth⟩) (0, 0) _ HS2.out.drew.row Try.underlying36 rfl row_size ?_
     refine hK.out _ _ (HS2.out.drew) (fun hHeld => ?_)
     clear hK K
     try simp only [ZP, ZA, ZB, ZC, ZD, ZE, ZF]
     refine tkR [1] ?_
     refine ZS rfl (fun K hK => ?_) ZN
     go_simp
     go_at_call 33
     with_reducible refine (HTI.out _).mono ?_
     rintro y1 u1 ⟨rfl, hB1⟩
     refine hK.out _ _ (hHeld.later hB1) (fun hHeld => ?_)
     clear hK K
     try simp only [ZP, ZA, ZB, ZC, ZD, ZE, ZF]
     refine tkH 2 ?_ rfl blB ?_ ?_
     rotate_left
     ·intro w' hSw; (try dsimp only at hSw); obtain ⟨c3, cb1, cb3, cb11⟩ := EvC4 hSw; go_simp; try with_reducible rfl
     try simp only [ZP, ZA, ZB, ZC, ZD, ZE, ZF]
     refine tkH 3 ?_ rfl blB ?_ ?_
     rotate_left
     ·intro w' hSw; (try dsimp only at hSw); obtain ⟨c3, cb1, cb3, cb11⟩ := EvC4 hSw; go_simp; try with_reducible rfl
     try simp only [ZP, ZA, ZB, ZC, ZD, ZE, ZF]
     refine tkH 4 ?_ rfl blB ?_ ?_
     rotate_left
     ·intro w' hSw; (try dsimp only at hSw); obtain ⟨c3, cb1, cb3, cb11⟩ := EvC4 hSw; go_simp; try with_reducible rfl
     try simp only [ZP, ZA, ZB, ZC, ZD, ZE, ZF]
     refine tkH 5 ?_ rfl blB ?_ ?_
     rotate_left
     ·intro w' hSw; (try dsimp only at hSw); obtain ⟨c3, cb1, cb3, cb11⟩ := EvC4 hSw; go_simp; try with_reducible rfl
     try simp only [ZP, ZA, ZB, ZC, ZD, ZE, ZF]
     refine tkH 6 ?_ rfl blB ?_ ?_
     rotate_left
     ·intro w' hSw; (try dsimp only at hSw); obtain ⟨c3, cb1, cb3, cb11⟩ := EvC4 hSw; go_simp; try with_reducible rfl
     try simp only [ZP, ZA, ZB, ZC, ZD, ZE, ZF]
     refine tkH 7 ?_ rfl blB ?_ ?_
     rotate_left
     ·intro w' hSw; (try dsimp only at hSw); obtain ⟨c3, cb1, cb3, cb11⟩ := EvC4 hSw; go_simp; try with_reducible rfl
     try simp only [ZP, ZA, ZB, ZC, ZD, ZE, ZF]
     refine tkH 8 ?_ rfl blB ?_ ?_
     rotate_left
     ·intro w' hSw; (try dsimp only at hSw); obtain ⟨c3, cb1, cb3, cb11⟩ := EvC4 hSw; go_simp; try with_reducible rfl
     try simp only [ZP, ZA, ZB, ZC, ZD, ZE, ZF]
     refine tkH 9 ?_ rfl blB ?_ ?_
     rotate_left
     ·intro w' hSw; (try dsimp only at hSw); obtain ⟨c3, cb1, cb3, cb11⟩ := EvC4 hSw; go_simp; try with_reducible rfl
     try simp only [ZP, ZA, ZB, ZC, ZD, ZE, ZF]
     refine tkH 10 ?_ rfl blB ?_ ?_
     rotate_left
     ·intro w' hSw; (try dsimp only at hSw); obtain ⟨c3, cb1, cb3, cb11⟩ := EvC4 hSw; go_simp; try with_reducible rfl
     try simp only [ZP, ZA, ZB, ZC, ZD, ZE, ZF]
     refine tkH 11 ?_ rfl blB ?_ ?_
     rotate_left
     ·intro w' hSw; (try dsimp only at hSw); obtain ⟨c3, cb1, cb3, cb11⟩ := EvC4 hSw; go_simp; try with_reducible rfl
     try simp only [ZP, ZA, ZB, ZC, ZD, ZE, ZF]
     refine tkH 12 ?_ rfl blB ?_ ?_
     rotate_left
     ·intro w' hSw; (try dsimp only at hSw); obtain ⟨c3, cb1, cb3, cb11⟩ := EvC4 hSw; go_simp; try with_reducible rfl
     try simp only [ZP, ZA, ZB, ZC, ZD, ZE, ZF]
     refine tkH 13 ?_ rfl blB ?_ ?_
     rotate_left
     ·intro w' hSw; (try dsimp only at hSw); obtain ⟨c3, cb1, cb3, cb11⟩ := EvC4 hSw; go_simp; try with_reducible rfl
     try simp only [ZP, ZA, ZB, ZC, ZD, ZE, ZF]
     refine tkH 14 ?_ rfl blB ?_ ?_
     rotate_left
     ·intro w' hSw; (try dsimp only at hSw); obtain ⟨c3, cb1, cb3, cb11⟩ := EvC4 hSw; go_simp; try with_reducible rfl
     try simp only [ZP, ZA, ZB, ZC, ZD, ZE, ZF]
     refine tkH 15 ?_ rfl blB ?_ ?_
     rotate_left
     ·intro w' hSw; (try dsimp only at hSw); obtain ⟨c3, cb1, cb3, cb11⟩ := EvC4 hSw; go_simp; try with_reducible rfl
     try simp only [ZP, ZA, ZB, ZC, ZD, ZE, ZF]
     refine tkH 16 ?_ rfl blB ?_ ?_
     rotate_left
     ·intro w' hSw; (try dsimp only at hSw); obtain ⟨c3, cb1, cb3, cb11⟩ := EvC4 hSw; go_simp; try with_reducible rfl
     try simp only [ZP, ZA, ZB, ZC, ZD, ZE, ZF]
     refine tkH 17 ?_ rfl blB ?_ ?_
     rotate_left
     ·intro w' hSw; (try dsimp only at hSw); obtain ⟨c3, cb1, cb3, cb11⟩ := EvC4 hSw; go_simp; try with_reducible rfl
     try simp only [ZP, ZA, ZB, ZC, ZD, ZE, ZF]
     refine tkH 18 ?_ rfl blB ?_ ?_
     rotate_left
     ·intro w' hSw; (try dsimp only at hSw); obtain ⟨c3, cb1, cb3, cb11⟩ := EvC4 hSw; go_simp; try with_reducible rfl
     try simp only [ZP, ZA, ZB, ZC, ZD, ZE, ZF]
     refine tkH 19 ?_ rfl blB ?_ ?_
     rotate_left
     ·intro w' hSw; (try dsimp only at hSw); obtain ⟨c3, cb1, cb3, cb11⟩ := EvC4 hSw; go_simp; try with_reducible rfl
     try simp only [ZP, ZA, ZB, ZC, ZD, ZE, ZF]
     refine tkH 20 ?_ rfl blB ?_ ?_
     rotate_left
     ·intro w' hSw; (try dsimp only at hSw); obtain ⟨c3, cb1, cb3, cb11⟩ := EvC4 hSw; go_simp; try with_reducible rfl
     try simp only [ZP, ZA, ZB, ZC, ZD, ZE, ZF]
     refine tkH 21 ?_ rfl blB ?_ ?_
     rotate_left
     ·intro w' hSw; (try dsimp only at hSw); obtain ⟨c3, cb1, cb3, cb11⟩ := EvC4 hSw; go_simp; try with_reducible rfl
     try simp only [ZP, ZA, ZB, ZC, ZD, ZE, ZF]
     refine tkH 22 ?_ rfl blB ?_ ?_
     rotate_left
     ·intro w' hSw; (try dsimp only at hSw); obtain ⟨c3, cb1, cb3, cb11⟩ := EvC4 hSw; go_simp; try with_reducible rfl
     try simp only [ZP, ZA, ZB, ZC, ZD, ZE, ZF]
     refine tkH 23 ?_ rfl blB ?_ ?_
     rotate_left
     ·intro w' hSw; (try dsimp only at hSw); obtain ⟨c3, cb1, cb3, cb11⟩ := EvC4 hSw; go_simp; try with_reducible rfl
     try simp only [ZP, ZA, ZB, ZC, ZD, ZE, ZF]
     refine tkH 24 ?_ rfl blB ?_ ?_
     rotate_left
     ·intro w' hSw; (try dsimp only at hSw); obtain ⟨c3, cb1, cb3, cb11⟩ := EvC4 hSw; go_simp; try with_reducible rfl
     try simp only [ZP, ZA, ZB, ZC, ZD, ZE, ZF]
     refine tkH 25 ?_ rfl blB ?_ ?_
     rotate_left
     ·intro w' hSw; (try dsimp only at hSw); obtain ⟨c3, cb1, cb3, cb11⟩ := EvC4 hSw; go_simp; try with_reducible rfl
     try simp only [ZP, ZA, ZB, ZC, ZD, ZE, ZF]
     refine tkH 26 ?_ rfl blB ?_ ?_
     rotate_left
     ·intro w' hSw; (try dsimp only at hSw); obtain ⟨c3, cb1, cb3, cb11⟩ := EvC4 hSw; go_simp; try with_reducible rfl
     try simp only [ZP, ZA, ZB, ZC, ZD, ZE, ZF]
     refine tkH 27 ?_ rfl blB ?_ ?_
     rotate_left
     ·intro w' hSw; (try dsimp only at hSw); obtain ⟨c3, cb1, cb3, cb11⟩ := EvC4 hSw; go_simp; try with_reducible rfl
     try simp only [ZP, ZA, ZB, ZC, ZD, ZE, ZF]
     refine tkH 28 ?_ rfl blB ?_ ?_
     rotate_left
     ·intro w' hSw; (try dsimp only at hSw); obtain ⟨c3, cb1, cb3, cb11⟩ := EvC4 hSw; go_simp; try with_reducible rfl
     try simp only [ZP, ZA, ZB, ZC, ZD, ZE, ZF]
     refine tkH 29 ?_ rfl blB ?_ ?_
     rotate_left
     ·intro w' hSw; (try dsimp only at hSw); obtain ⟨c3, cb1, cb3, cb11⟩ := EvC4 hSw; go_simp; try with_reducible rfl
     try simp only [ZP, ZA, ZB, ZC, ZD, ZE, ZF]
     refine tkH 30 ?_ rfl blB ?_ ?_
     rotate_left
     ·intro w' hSw; (try dsimp only at hSw); obtain ⟨c3, cb1, cb3, cb11⟩ := EvC4 hSw; go_simp; try with_reducible rfl
     try simp only [ZP, ZA, ZB, ZC, ZD, ZE, ZF]
     refine tkH 31 ?_ rfl blB ?_ ?_
     rotate_left
     ·intro w' hSw; (try dsimp only at hSw); obtain ⟨c3, cb1, cb3, cb11⟩ := EvC4 hSw; go_simp; try with_reducible rfl
     try simp only [ZP, ZA, ZB, ZC, ZD, ZE, ZF]
     refine tkR [32] ?_
     refine ZS rfl (fun K hK => ?_) ZN
     go_simp
     go_at_call 23
     with_reducible refine (HY.out _ _).mono ?_
     rintro y2 u2 ⟨rfl, rfl⟩
     refine hK.out _ _ (hHeld) (fun hHeld => ?_)
     clear hK K
     try simp only [ZP, ZA, ZB, ZC, ZD, ZE, ZF]
     refine wpAnyH_done (by kernel_rfl) ?_ _
     have hs3 : EvSt w u1 b base k (.slice A k.flying.length c) vp vd R (R + 1) ⟨kind, rt, rsp, rsize, ⟨osp, onum, osize, oel, ofl, opr, oect⟩, delay, ra, rn, rc, marked, e0, e1, e2, ea, en, ec, err, smooth⟩ ⟨4, es, em, ee⟩ rs := hHeld
     have HS3 := hide hs3
     have x3 := hs3.ev.cell 3
     have k11 := hs3.kn.blk.cell 11
     have f11 := hs3.kn.blk.frozen 11
     simp only [knC, ZG, ZH, ZJ] at x3 k11
     clear hs3
     go_wp2_with fail
     go_end0
     exact StepPost.ok HZ.out (HS3.out.kn.put 11 (ZI ZQ ee) { k with window := ee } rfl rfl rfl rfl) (HS3.out.bl.set HS3.out.kn.blk HS3.out.kn.ge _ _)
   ·have h3' : ¬ ee ≤ k.c.most := h3
    have h3'' : k.c.most < ee := by omega
    have d3 : decide (ee ≤ k.c.most) = false := decide_eq_false h3
    go_wp2_with fail
    refine wp_region_held_drew (S := (fun w' => EvSt w w' b base k (.slice A k.flying.length c) vp vd R (R + 1) ⟨kind, rt, rsp, rsize, ⟨osp, onum, osize, oel, ofl, opr, oect⟩, delay, ra, rn, rc, marked, e0, e1, e2, ea, en, ec, err, smooth⟩ ⟨4, es, em, ee⟩ rs)) (by kernel_rfl) (HS2.out.drew) (fun hHeld => ?_)
    refine tkR [0] ?_
    refine ZS rfl (fun K hK => ?_) ZN
    rw [if_pos (by rfl)]
    refine wp_load_row 36 (.tmp 4) rfl R rfl 36 (rwC ⟨kind, rt, rsp, rsize, ⟨osp, onum, osize, oel, ofl, opr, oect⟩, delay, ra, rn, rc, marked, e0, e1, e2, ea, en, ec, err, smooth⟩) (0, 0) _ HS2.out.drew.row Try.underlying36 rfl row_size ?_
    refine hK.out _ _ (HS2.out.drew) (fun hHeld => ?_)
    clear hK K
    try simp only [ZP, ZA, ZB, ZC, ZD, ZE, ZF]
    refine tkR [1] ?_
    refine ZS rfl (fun K hK => ?_) ZN
    go_simp
    go_at_call 33
    with_reducible refine (HTI.out _).mono ?_
    rintro y1 u1 ⟨rfl, hB1⟩
    refine hK.out _ _ (hHeld.later hB1) (fun hHeld => ?_)
    clear hK K
    try simp only [ZP, ZA, ZB, ZC, ZD, ZE, ZF]
    refine tkH 2 ?_ rfl blB ?_ ?_
    rotate_left
    ·intro w' hSw; (try dsimp only at hSw); obtain ⟨c3, cb1, cb3, cb11⟩ := EvC4 hSw; go_simp; try with_reducible rfl
    try simp only [ZP, ZA, ZB, ZC, ZD, ZE, ZF]
    refine tkH 3 ?_ rfl blB ?_ ?_
    rotate_left
    ·intro w' hSw; (try dsimp only at hSw); obtain ⟨c3, cb1, cb3, cb11⟩ := EvC4 hSw; go_simp; try with_reducible rfl
    try simp only [ZP, ZA, ZB, ZC, ZD, ZE, ZF]
    refine tkH 4 ?_ rfl blB ?_ ?_
    rotate_left
    ·intro w' hSw; (try dsimp only at hSw); obtain ⟨c3, cb1, cb3, cb11⟩ := EvC4 hSw; go_simp; try with_reducible rfl
    try simp only [ZP, ZA, ZB, ZC, ZD, ZE, ZF]
    refine tkH 5 ?_ rfl blB ?_ ?_
    rotate_left
    ·intro w' hSw; (try dsimp only at hSw); obtain ⟨c3, cb1, cb3, cb11⟩ := EvC4 hSw; go_simp; try with_reducible rfl
    try simp only [ZP, ZA, ZB, ZC, ZD, ZE, ZF]
    refine tkH 6 ?_ rfl blB ?_ ?_
    rotate_left
    ·intro w' hSw; (try dsimp only at hSw); obtain ⟨c3, cb1, cb3, cb11⟩ := EvC4 hSw; go_simp; try with_reducible rfl
    try simp only [ZP, ZA, ZB, ZC, ZD, ZE, ZF]
    refine tkH 7 ?_ rfl blB ?_ ?_
    rotate_left
    ·intro w' hSw; (try dsimp only at hSw); obtain ⟨c3, cb1, cb3, cb11⟩ := EvC4 hSw; go_simp; try with_reducible rfl
    try simp only [ZP, ZA, ZB, ZC, ZD, ZE, ZF]
    refine tkH 8 ?_ rfl blB ?_ ?_
    rotate_left
    ·intro w' hSw; (try dsimp only at hSw); obtain ⟨c3, cb1, cb3, cb11⟩ := EvC4 hSw; go_simp; try with_reducible rfl
    try simp only [ZP, ZA, ZB, ZC, ZD, ZE, ZF]
    refine tkH 9 ?_ rfl blB ?_ ?_
    rotate_left
    ·intro w' hSw; (try dsimp only at hSw); obtain ⟨c3, cb1, cb3, cb11⟩ := EvC4 hSw; go_simp; try with_reducible rfl
    try simp only [ZP, ZA, ZB, ZC, ZD, ZE, ZF]
    refine tkH 10 ?_ rfl blB ?_ ?_
    rotate_left
    ·intro w' hSw; (try dsimp only at hSw); obtain ⟨c3, cb1, cb3, cb11⟩ := EvC4 hSw; go_simp; try with_reducible rfl
    try simp only [ZP, ZA, ZB, ZC, ZD, ZE, ZF]
    refine tkH 11 ?_ rfl blB ?_ ?_
    rotate_left
    ·intro w' hSw; (try dsimp only at hSw); obtain ⟨c3, cb1, cb3, cb11⟩ := EvC4 hSw; go_simp; try with_reducible rfl
    try simp only [ZP, ZA, ZB, ZC, ZD, ZE, ZF]
    refine tkH 12 ?_ rfl blB ?_ ?_
    rotate_left
    ·intro w' hSw; (try dsimp only at hSw); obtain ⟨c3, cb1, cb3, cb11⟩ := EvC4 hSw; go_simp; try with_reducible rfl
    try simp only [ZP, ZA, ZB, ZC, ZD, ZE, ZF]
    refine tkH 13 ?_ rfl blB ?_ ?_
    rotate_left
    ·intro w' hSw; (try dsimp only at hSw); obtain ⟨c3, cb1, cb3, cb11⟩ := EvC4 hSw; go_simp; try with_reducible rfl
    try simp only [ZP, ZA, ZB, ZC, ZD, ZE, ZF]
    refine tkH 14 ?_ rfl blB ?_ ?_
    rotate_left
    ·intro w' hSw; (try dsimp only at hSw); obtain ⟨c3, cb1, cb3, cb11⟩ := EvC4 hSw; go_simp; try with_reducible rfl
    try simp only [ZP, ZA, ZB, ZC, ZD, ZE, ZF]
    refine tkH 15 ?_ rfl blB ?_ ?_
    rotate_left
    ·intro w' hSw; (try dsimp only at hSw); obtain ⟨c3, cb1, cb3, cb11⟩ := EvC4 hSw; go_simp; try with_reducible rfl
    try simp only [ZP, ZA, ZB, ZC, ZD, ZE, ZF]
    refine tkH 16 ?_ rfl blB ?_ ?_
    rotate_left
    ·intro w' hSw; (try dsimp only at hSw); obtain ⟨c3, cb1, cb3, cb11⟩ := EvC4 hSw; go_simp; try with_reducible rfl
    try simp only [ZP, ZA, ZB, ZC, ZD, ZE, ZF]
    refine tkH 17 ?_ rfl blB ?_ ?_
    rotate_left
    ·intro w' hSw; (try dsimp only at hSw); obtain ⟨c3, cb1, cb3, cb11⟩ := EvC4 hSw; go_simp; try with_reducible rfl
    try simp only [ZP, ZA, ZB, ZC, ZD, ZE, ZF]
    refine tkH 18 ?_ rfl blB ?_ ?_
    rotate_left
    ·intro w' hSw; (try dsimp only at hSw); obtain ⟨c3, cb1, cb3, cb11⟩ := EvC4 hSw; go_simp; try with_reducible rfl
    try simp only [ZP, ZA, ZB, ZC, ZD, ZE, ZF]
    refine tkH 19 ?_ rfl blB ?_ ?_
    rotate_left
    ·intro w' hSw; (try dsimp only at hSw); obtain ⟨c3, cb1, cb3, cb11⟩ := EvC4 hSw; go_simp; try with_reducible rfl
    try simp only [ZP, ZA, ZB, ZC, ZD, ZE, ZF]
    refine tkH 20 ?_ rfl blB ?_ ?_
    rotate_left
    ·intro w' hSw; (try dsimp only at hSw); obtain ⟨c3, cb1, cb3, cb11⟩ := EvC4 hSw; go_simp; try with_reducible rfl
    try simp only [ZP, ZA, ZB, ZC, ZD, ZE, ZF]
    refine tkH 21 ?_ rfl blB ?_ ?_
    rotate_left
    ·intro w' hSw; (try dsimp only at hSw); obtain ⟨c3, cb1, cb3, cb11⟩ := EvC4 hSw; go_simp; try with_reducible rfl
    try simp only [ZP, ZA, ZB, ZC, ZD, ZE, ZF]
    refine tkH 22 ?_ rfl blB ?_ ?_
    rotate_left
    ·intro w' hSw; (try dsimp only at hSw); obtain ⟨c3, cb1, cb3, cb11⟩ := EvC4 hSw; go_simp; try with_reducible rfl
    try simp only [ZP, ZA, ZB, ZC, ZD, ZE, ZF]
    refine tkH 23 ?_ rfl blB ?_ ?_
    rotate_left
    ·intro w' hSw; (try dsimp only at hSw); obtain ⟨c3, cb1, cb3, cb11⟩ := EvC4 hSw; go_simp; try with_reducible rfl
    try simp only [ZP, ZA, ZB, ZC, ZD, ZE, ZF]
    refine tkU 24 rfl blB ?_
    try simp only [ZP, ZA, ZB, ZC, ZD, ZE, ZF]
    refine tkU 25 rfl blB ?_
    try simp only [ZP, ZA, ZB, ZC, ZD, ZE, ZF]
    refine tkU 26 rfl blB ?_
    try simp only [ZP, ZA, ZB, ZC, ZD, ZE, ZF]
    refine tkU 27 rfl blB ?_
    try simp only [ZP, ZA, ZB, ZC, ZD, ZE, ZF]
    refine tkU 28 rfl blB ?_
    try simp only [ZP, ZA, ZB, ZC, ZD, ZE, ZF]
    refine tkU 29 rfl blB ?_
    try simp only [ZP, ZA, ZB, ZC, ZD, ZE, ZF]
    refine tkU 30 rfl blB ?_
    try simp only [ZP, ZA, ZB, ZC, ZD, ZE, ZF]
    refine tkH 31 ?_ rfl blB ?_ ?_
    rotate_left
    ·intro w' hSw; (try dsimp only at hSw); obtain ⟨c3, cb1, cb3, cb11⟩ := EvC4 hSw; go_simp; try with_reducible rfl
    try simp only [ZP, ZA, ZB, ZC, ZD, ZE, ZF]
    refine tkR [32] ?_
    refine ZS rfl (fun K hK => ?_) ZN
    go_simp
    go_at_call 23
    with_reducible refine (HNO.out _ _).mono ?_
    rintro y2 u2 ⟨rfl, rfl⟩
    exact ⟨rfl, StepPost.err (by rw [← HRES.out]; simp [eventP, H1.out, h2]; intros; omega) hHeld.bl⟩
  ·have h2'' : ee < 2 * k.c.d := by omega
   have d2 : decide (2 * k.c.d ≤ ee) = false := decide_eq_false h2
   go_wp2_with fail
   refine wp_region_held_drew (S := (fun w' => EvSt w w' b base k (.slice A k.flying.length c) vp vd R (R + 1) ⟨kind, rt, rsp, rsize, ⟨osp, onum, osize, oel, ofl, opr, oect⟩, delay, ra, rn, rc, marked, e0, e1, e2, ea, en, ec, err, smooth⟩ ⟨4, es, em, ee⟩ rs)) (by kernel_rfl) (HS2.out.drew) (fun hHeld => ?_)
   refine tkR [0] ?_
   refine ZS rfl (fun K hK => ?_) ZN
   rw [if_pos (by rfl)]
   refine wp_load_row 36 (.tmp 4) rfl R rfl 36 (rwC ⟨kind, rt, rsp, rsize, ⟨osp, onum, osize, oel, ofl, opr, oect⟩, delay, ra, rn, rc, marked, e0, e1, e2, ea, en, ec, err, smooth⟩) (0, 0) _ HS2.out.drew.row Try.underlying36 rfl row_size ?_
   refine hK.out _ _ (HS2.out.drew) (fun hHeld => ?_)
   clear hK K
   try simp only [ZP, ZA, ZB, ZC, ZD, ZE, ZF]
   refine tkR [1] ?_
   refine ZS rfl (fun K hK => ?_) ZN
   go_simp
   go_at_call 33
   with_reducible refine (HTI.out _).mono ?_
   rintro y1 u1 ⟨rfl, hB1⟩
   refine hK.out _ _ (hHeld.later hB1) (fun hHeld => ?_)
   clear hK K
   try simp only [ZP, ZA, ZB, ZC, ZD, ZE, ZF]
   refine tkH 2 ?_ rfl blB ?_ ?_
   rotate_left
   ·intro w' hSw; (try dsimp only at hSw); obtain ⟨c3, cb1, cb3, cb11⟩ := EvC4 hSw; go_simp; try with_reducible rfl
   try simp only [ZP, ZA, ZB, ZC, ZD, ZE, ZF]
   refine tkH 3 ?_ rfl blB ?_ ?_
   rotate_left
   ·intro w' hSw; (try dsimp only at hSw); obtain ⟨c3, cb1, cb3, cb11⟩ := EvC4 hSw; go_simp; try with_reducible rfl
   try simp only [ZP, ZA, ZB, ZC, ZD, ZE, ZF]
   refine tkH 4 ?_ rfl blB ?_ ?_
   rotate_left
   ·intro w' hSw; (try dsimp only at hSw); obtain ⟨c3, cb1, cb3, cb11⟩ := EvC4 hSw; go_simp; try with_reducible rfl
   try simp only [ZP, ZA, ZB, ZC, ZD, ZE, ZF]
   refine tkH 5 ?_ rfl blB ?_ ?_
   rotate_left
   ·intro w' hSw; (try dsimp only at hSw); obtain ⟨c3, cb1, cb3, cb11⟩ := EvC4 hSw; go_simp; try with_reducible rfl
   try simp only [ZP, ZA, ZB, ZC, ZD, ZE, ZF]
   refine tkH 6 ?_ rfl blB ?_ ?_
   rotate_left
   ·intro w' hSw; (try dsimp only at hSw); obtain ⟨c3, cb1, cb3, cb11⟩ := EvC4 hSw; go_simp; try with_reducible rfl
   try simp only [ZP, ZA, ZB, ZC, ZD, ZE, ZF]
   refine tkH 7 ?_ rfl blB ?_ ?_
   rotate_left
   ·intro w' hSw; (try dsimp only at hSw); obtain ⟨c3, cb1, cb3, cb11⟩ := EvC4 hSw; go_simp; try with_reducible rfl
   try simp only [ZP, ZA, ZB, ZC, ZD, ZE, ZF]
   refine tkH 8 ?_ rfl blB ?_ ?_
   rotate_left
   ·intro w' hSw; (try dsimp only at hSw); obtain ⟨c3, cb1, cb3, cb11⟩ := EvC4 hSw; go_simp; try with_reducible rfl
   try simp only [ZP, ZA, ZB, ZC, ZD, ZE, ZF]
   refine tkH 9 ?_ rfl blB ?_ ?_
   rotate_left
   ·intro w' hSw; (try dsimp only at hSw); obtain ⟨c3, cb1, cb3, cb11⟩ := EvC4 hSw; go_simp; try with_reducible rfl
   try simp only [ZP, ZA, ZB, ZC, ZD, ZE, ZF]
   refine tkH 10 ?_ rfl blB ?_ ?_
   rotate_left
   ·intro w' hSw; (try dsimp only at hSw); obtain ⟨c3, cb1, cb3, cb11⟩ := EvC4 hSw; go_simp; try with_reducible rfl
   try simp only [ZP, ZA, ZB, ZC, ZD, ZE, ZF]
   refine tkH 11 ?_ rfl blB ?_ ?_
   rotate_left
   ·intro w' hSw; (try dsimp only at hSw); obtain ⟨c3, cb1, cb3, cb11⟩ := EvC4 hSw; go_simp; try with_reducible rfl
   try simp only [ZP, ZA, ZB, ZC, ZD, ZE, ZF]
   refine tkH 12 ?_ rfl blB ?_ ?_
   rotate_left
   ·intro w' hSw; (try dsimp only at hSw); obtain ⟨c3, cb1, cb3, cb11⟩ := EvC4 hSw; go_simp; try with_reducible rfl
   try simp only [ZP, ZA, ZB, ZC, ZD, ZE, ZF]
   refine tkH 13 ?_ rfl blB ?_ ?_
   rotate_left
   ·intro w' hSw; (try dsimp only at hSw); obtain ⟨c3, cb1, cb3, cb11⟩ := EvC4 hSw; go_simp; try with_reducible rfl
   try simp only [ZP, ZA, ZB, ZC, ZD, ZE, ZF]
   refine tkU 14 rfl blB ?_
   try simp only [ZP, ZA, ZB, ZC, ZD, ZE, ZF]
   refine tkU 15 rfl blB ?_
   try simp only [ZP, ZA, ZB, ZC, ZD, ZE, ZF]
   refine tkU 16 rfl blB ?_
   try simp only [ZP, ZA, ZB, ZC, ZD, ZE, ZF]
   refine tkU 17 rfl blB ?_
   try simp only [ZP, ZA, ZB, ZC, ZD, ZE, ZF]
   refine tkU 18 rfl blB ?_
   try simp only [ZP, ZA, ZB, ZC, ZD, ZE, ZF]
   refine tkU 19 rfl blB ?_
   try simp only [ZP, ZA, ZB, ZC, ZD, ZE, ZF]
   refine tkU 20 rfl blB ?_
   try simp only [ZP, ZA, ZB, ZC, ZD, ZE, ZF]
   refine tkU 21 rfl blB ?_
   try simp only [ZP, ZA, ZB, ZC, ZD, ZE, ZF]
   refine tkH 22 ?_ rfl blB ?_ ?_
   rotate_left
   ·intro w' hSw; (try dsimp only at hSw); obtain ⟨c3, cb1, cb3, cb11⟩ := EvC4 hSw; go_simp; try with_reducible rfl
   try simp only [ZP, ZA, ZB, ZC, ZD, ZE, ZF]
   refine tkH 23 ?_ rfl blB ?_ ?_
   rotate_left
   ·intro w' hSw; (try dsimp only at hSw); obtain ⟨c3, cb1, cb3, cb11⟩ := EvC4 hSw; go_simp; try with_reducible rfl
   try simp only [ZP, ZA, ZB, ZC, ZD, ZE, ZF]
   refine tkU 24 rfl blB ?_
   try simp only [ZP, ZA, ZB, ZC, ZD, ZE, ZF]
   refine tkU 25 rfl blB ?_
   try simp only [ZP, ZA, ZB, ZC, ZD, ZE, ZF]
   refine tkU 26 rfl blB ?_
   try simp only [ZP, ZA, ZB, ZC, ZD, ZE, ZF]
   refine tkU 27 rfl blB ?_
   try simp only [ZP, ZA, ZB, ZC, ZD, ZE, ZF]
   refine tkU 28 rfl blB ?_
   try simp only [ZP, ZA, ZB, ZC, ZD, ZE, ZF]
   refine tkU 29 rfl blB ?_
   try simp only [ZP, ZA, ZB, ZC, ZD, ZE, ZF]
   refine tkU 30 rfl blB ?_
   try simp only [ZP, ZA, ZB, ZC, ZD, ZE, ZF]
   refine tkH 31 ?_ rfl blB ?_ ?_
   rotate_left
   ·intro w' hSw; (try dsimp only at hSw); obtain ⟨c3, cb1, cb3, cb11⟩ := EvC4 hSw; go_simp; try with_reducible rfl
   try simp only [ZP, ZA, ZB, ZC, ZD, ZE, ZF]
   refine tkR [32] ?_
   refine ZS rfl (fun K hK => ?_) ZN
   go_simp
   go_at_call 23
   with_reducible refine (HNO.out _ _).mono ?_
   rintro y2 u2 ⟨rfl, rfl⟩
   exact ⟨rfl, StepPost.err (by rw [← HRES.out]; simp [eventP, H1.out]; intros; omega) hHeld.bl⟩
end Go.Proofs.Ytidfngcclbhoaaa
