/-
 Events and steps of the program: 2 texts in one (JgEventK, JgSteps).
-/
import Derived.Test.YtidfngcclbhoaaaJgEventA
import Derived.Deep.RegionHeld3
import Derived.StillTail
import Derived.Test.YtidfngcclbhoaaaJgEvent
namespace Go.Proofs.Ytidfngcclbhoaaa
open List renaming getElem_toArray → ZA, getElem_cons_zero → ZB, getElem_cons_succ → ZC, setIfInBounds_toArray → ZD, set_cons_zero → ZE, set_cons_succ → ZF, getElem?_toArray → ZG, getElem?_cons_zero → ZH, getElem?_cons_succ → ZJ
open Go.AllReadyH renaming cons → ZS, nil → ZN
open Go.Act renaming put → ZP
open Go.Value renaming int → ZI
open Go.IntKind renaming i64 → ZQ
set_option linter.unusedSimpArgs false
set_option linter.unusedVariables false
open Go.RowKit Go.Shelf
set_option maxRecDepth 100000 in
set_option maxHeartbeats 8000000 in
theorem event_probe (b base : Nat) (k : KN) (vf vp vd : Value) (r : RW) (rs : List RGJ) (e : EVJ) (w : World) (hK : KnAt w b base k vf vp vd) (hR : LieAt rgL 2 w base r.ra rs) (hrn : rs.length = r.rn) (hrl : r.rn ≤ 2000) (hfn : k.flying.length ≤ 2000) (hk : e.kind = 3) (hr4 : r.kind = 4) (hsp : e.sp = 0) (hn1 : e.n = 1) :
  Calls Try.prog 32 #[.pointer (some ⟨b, 0, none⟩), .agg (rwC r), .agg #[ZI ZQ e.kind, ZI ZQ e.sp, ZI ZQ e.num, ZI ZQ e.n]] w (StepPost b base w (eventP k r rs e)) := by
 obtain ⟨A, c, rfl⟩ := own_sl hK.fl
 obtain ⟨kind, rt, rsp, rsize, ⟨osp, onum, osize, oel, ofl, opr, oect⟩, delay, ra, rn, rc, marked, e0, e1, e2, ea, en, ec, err, smooth⟩ := r
 obtain ⟨ek, es, em, ee⟩ := e
 simp only at hR hrn hrl hk ⊢
 subst hk
 simp only at hr4 hsp hn1
 subst hr4 hsp hn1
 obtain ⟨res, hres⟩ : ∃ x, eventP k ⟨4, rt, rsp, rsize, ⟨osp, onum, osize, oel, ofl, opr, oect⟩, delay, ra, rn, rc, marked, e0, e1, e2, ea, en, ec, err, smooth⟩ rs ⟨3, 0, em, 1⟩ = x := ⟨_, rfl⟩
 rw [hres]
 have HRES := hide hres
 clear hres
 have hge := hK.ge
 have hbb : base ≤ w.heap.size := Nat.le_of_lt (Nat.lt_of_le_of_lt hK.ge hK.blk.lt)
 unfold rwC
 have ha : Below w.heap.size w ((w.alloc (.cells #[ZI ZQ 4, ZI ZQ rt, ZI ZQ rsp, ZI ZQ rsize, ZI ZQ osp, ZI ZQ onum, ZI ZQ osize, .bool oel, .bool ofl, .bool opr, .bool oect, ZI ZQ delay, .slice ra rn rc, .bool marked, ZI ZQ e0, ZI ZQ e1, ZI ZQ e2, .slice ea en ec, ZI ZQ err, ZI ZQ smooth] 36)).alloc (.cells #[ZI ZQ 3, ZI ZQ 0, ZI ZQ em, ZI ZQ 1] 46)) := ((Below.refl _ _).alloc (Nat.le_refl _) _).alloc (by simp) _
 have hs0 : EvSt w ((w.alloc (.cells #[ZI ZQ 4, ZI ZQ rt, ZI ZQ rsp, ZI ZQ rsize, ZI ZQ osp, ZI ZQ onum, ZI ZQ osize, .bool oel, .bool ofl, .bool opr, .bool oect, ZI ZQ delay, .slice ra rn rc, .bool marked, ZI ZQ e0, ZI ZQ e1, ZI ZQ e2, .slice ea en ec, ZI ZQ err, ZI ZQ smooth] 36)).alloc (.cells #[ZI ZQ 3, ZI ZQ 0, ZI ZQ em, ZI ZQ 1] 46)) b base k (.slice A k.flying.length c) vp vd w.heap.size (w.heap.size + 1) ⟨4, rt, rsp, rsize, ⟨osp, onum, osize, oel, ofl, opr, oect⟩, delay, ra, rn, rc, marked, e0, e1, e2, ea, en, ec, err, smooth⟩ ⟨3, 0, em, 1⟩ rs := by
  refine ⟨hK.later ha, (Blk.new _ _ _).alloc _, ?_, hR.later (ha.mono hbb), Far.of_below ha hbb⟩
  have := Blk.new (w.alloc (.cells #[ZI ZQ 4, ZI ZQ rt, ZI ZQ rsp, ZI ZQ rsize, ZI ZQ osp, ZI ZQ onum, ZI ZQ osize, .bool oel, .bool ofl, .bool opr, .bool oect, ZI ZQ delay, .slice ra rn rc, .bool marked, ZI ZQ e0, ZI ZQ e1, ZI ZQ e2, .slice ea en ec, ZI ZQ err, ZI ZQ smooth] 36)) 46 #[ZI ZQ 3, ZI ZQ 0, ZI ZQ em, ZI ZQ 1]
  simpa using this
 obtain ⟨W1, hW1⟩ : ∃ x, (w.alloc (.cells #[ZI ZQ 4, ZI ZQ rt, ZI ZQ rsp, ZI ZQ rsize, ZI ZQ osp, ZI ZQ onum, ZI ZQ osize, .bool oel, .bool ofl, .bool opr, .bool oect, ZI ZQ delay, .slice ra rn rc, .bool marked, ZI ZQ e0, ZI ZQ e1, ZI ZQ e2, .slice ea en ec, ZI ZQ err, ZI ZQ smooth] 36)).alloc (.cells #[ZI ZQ 3, ZI ZQ 0, ZI ZQ em, ZI ZQ 1] 46) = x := ⟨_, rfl⟩
 obtain ⟨R, hRr⟩ : ∃ x, w.heap.size = x := ⟨_, rfl⟩
 have HPL := hide (fun W h => place_any b base k (.slice A k.flying.length c) vp vd ⟨3, 0, em, 1⟩ W h hfn)
 obtain ⟨n, hn⟩ : ∃ x, idxF (atP ⟨3, 0, em, 1⟩) k.flying 0 = x := ⟨_, rfl⟩
 rw [hn] at HPL
 have HN := hide hn
 have HY := hide (fun rule W => unless_yes rule W)
 have HNO := hide (fun rule W => unless_no rule W)
 go_enter Try.func32, Try.ntmps32
 go_upto_region 1 with (fail)
 rw [hW1, hRr] at hs0
 try rw [hW1]
 try rw [hRr]
 have HS1 := hide hs0
 have x0 := hs0.ev.cell 0
 have x1 := hs0.ev.cell 1
 have x2 := hs0.ev.cell 2
 have x3 := hs0.ev.cell 3
 simp only [ZG, ZH, ZJ] at x0 x1 x2 x3
 clear hs0 hW1 ha hR hRr hn
 go_wp2_with fail
 with_reducible refine (HPL.out _ HS1.out.kn).mono ?_
 rintro y1 W2 ⟨rfl, hb1⟩
 have hs2 := HS1.out.later hb1
 have HS2 := hide hs2
 clear HS1 x0 x1 x2 x3 hb1 HPL
 have x0 := hs2.ev.cell 0
 have x1 := hs2.ev.cell 1
 have x2 := hs2.ev.cell 2
 have x3 := hs2.ev.cell 3
 have r0 := hs2.row.cell 0
 have r1 := hs2.row.cell 1
 have r2 := hs2.row.cell 2
 have r12 := hs2.row.cell 12
 simp only [rwC, ZG, ZH, ZJ] at x0 x1 x2 x3 r0 r1 r2 r12
 clear hs2
 have HSP := hide (fun W => isspace_any 0 W)
 rw [show (decide ((0 : Int) ≤ 0) && decide ((0 : Int) < 3)) = true from rfl] at HSP
 clear HN
 go_wp2_with fail
 with_reducible refine (HSP.out _).mono ?_
 rintro y3 u3 ⟨rfl, rfl⟩
 go_wp2_with fail
 with_reducible refine (HY.out _ _).mono ?_
 rintro y4 u4 ⟨rfl, rfl⟩
 go_wp2_with fail
 have f23 := HS2.out.kn.blk.frozen 23
 have k23 := HS2.out.kn.blk.cell 23
 simp only [knC, ZG, ZH, ZJ] at k23
 refine wp_region_still_tail 8 (by kernel_rfl) (by kernel_rfl) ?_
 simp only [List.take_succ_cons, List.take_zero, List.drop_succ_cons, List.drop_zero]
 change wpStill _ _ W2.drew _ _ _
 have x1 := (World.cell?_drew W2 ⟨R + 1, 1, none⟩).trans x1
 have x3 := (World.cell?_drew W2 ⟨R + 1, 3, none⟩).trans x3
 have k23 := (World.cell?_drew W2 ⟨b, 23, none⟩).trans k23
 repeat (refine wpStill_step (fun K hK => ?_); go_simp; with_reducible refine hK _ ?_; clear hK K)
 refine wpStill_nil ?_
 change wpList _ _ _ _ _ W2.drew
 go_wp2_with fail
 go_end0
 have hs9 := (HS2.out.kn.put 23 (ZI ZQ 1) { k with own := fun j => if j = 0 then 1 else k.own j } rfl rfl rfl rfl).drew
 exact StepPost.ok (by rw [← HRES.out]; rfl) hs9 ((HS2.out.bl.set HS2.out.kn.blk HS2.out.kn.ge _ _).later (below_drewN (Below.refl _ _) 1) (by simp [World.setCell]; exact Nat.le_of_lt (Nat.lt_of_le_of_lt HS2.out.kn.ge HS2.out.kn.blk.lt)))
set_option maxRecDepth 100000 in
set_option maxHeartbeats 8000000 in
theorem event_noprobe (b base : Nat) (k : KN) (vf vp vd : Value) (r : RW) (rs : List RGJ) (e : EVJ) (w : World) (hK : KnAt w b base k vf vp vd) (hR : LieAt rgL 2 w base r.ra rs) (hrn : rs.length = r.rn) (hrl : r.rn ≤ 2000) (hfn : k.flying.length ≤ 2000) (hk : e.kind = 3) (hr4 : r.kind = 4) (hsp : (decide (0 ≤ e.sp) && decide (e.sp < 3)) = false) :
  Calls Try.prog 32 #[.pointer (some ⟨b, 0, none⟩), .agg (rwC r), .agg #[ZI ZQ e.kind, ZI ZQ e.sp, ZI ZQ e.num, ZI ZQ e.n]] w (StepPost b base w (eventP k r rs e)) := by
 obtain ⟨A, c, rfl⟩ := own_sl hK.fl
 obtain ⟨kind, rt, rsp, rsize, ⟨osp, onum, osize, oel, ofl, opr, oect⟩, delay, ra, rn, rc, marked, e0, e1, e2, ea, en, ec, err, smooth⟩ := r
 obtain ⟨ek, es, em, ee⟩ := e
 simp only at hR hrn hrl hk ⊢
 subst hk
 simp only at hr4 hsp
 subst hr4
 obtain ⟨res, hres⟩ : ∃ x, eventP k ⟨4, rt, rsp, rsize, ⟨osp, onum, osize, oel, ofl, opr, oect⟩, delay, ra, rn, rc, marked, e0, e1, e2, ea, en, ec, err, smooth⟩ rs ⟨3, es, em, ee⟩ = x := ⟨_, rfl⟩
 rw [hres]
 have HRES := hide hres
 clear hres
 have hge := hK.ge
 have hbb : base ≤ w.heap.size := Nat.le_of_lt (Nat.lt_of_le_of_lt hK.ge hK.blk.lt)
 unfold rwC
 have ha : Below w.heap.size w ((w.alloc (.cells #[ZI ZQ 4, ZI ZQ rt, ZI ZQ rsp, ZI ZQ rsize, ZI ZQ osp, ZI ZQ onum, ZI ZQ osize, .bool oel, .bool ofl, .bool opr, .bool oect, ZI ZQ delay, .slice ra rn rc, .bool marked, ZI ZQ e0, ZI ZQ e1, ZI ZQ e2, .slice ea en ec, ZI ZQ err, ZI ZQ smooth] 36)).alloc (.cells #[ZI ZQ 3, ZI ZQ es, ZI ZQ em, ZI ZQ ee] 46)) := ((Below.refl _ _).alloc (Nat.le_refl _) _).alloc (by simp) _
 have hs0 : EvSt w ((w.alloc (.cells #[ZI ZQ 4, ZI ZQ rt, ZI ZQ rsp, ZI ZQ rsize, ZI ZQ osp, ZI ZQ onum, ZI ZQ osize, .bool oel, .bool ofl, .bool opr, .bool oect, ZI ZQ delay, .slice ra rn rc, .bool marked, ZI ZQ e0, ZI ZQ e1, ZI ZQ e2, .slice ea en ec, ZI ZQ err, ZI ZQ smooth] 36)).alloc (.cells #[ZI ZQ 3, ZI ZQ es, ZI ZQ em, ZI ZQ ee] 46)) b base k (.slice A k.flying.length c) vp vd w.heap.size (w.heap.size + 1) ⟨4, rt, rsp, rsize, ⟨osp, onum, osize, oel, ofl, opr, oect⟩, delay, ra, rn, rc, marked, e0, e1, e2, ea, en, ec, err, smooth⟩ ⟨3, es, em, ee⟩ rs := by
  refine ⟨hK.later ha, (Blk.new _ _ _).alloc _, ?_, hR.later (ha.mono hbb), Far.of_below ha hbb⟩
  have := Blk.new (w.alloc (.cells #[ZI ZQ 4, ZI ZQ rt, ZI ZQ rsp, ZI ZQ rsize, ZI ZQ osp, ZI ZQ onum, ZI ZQ osize, .bool oel, .bool ofl, .bool opr, .bool oect, ZI ZQ delay, .slice ra rn rc, .bool marked, ZI ZQ e0, ZI ZQ e1, ZI ZQ e2, .slice ea en ec, ZI ZQ err, ZI ZQ smooth] 36)) 46 #[ZI ZQ 3, ZI ZQ es, ZI ZQ em, ZI ZQ ee]
  simpa using this
 obtain ⟨W1, hW1⟩ : ∃ x, (w.alloc (.cells #[ZI ZQ 4, ZI ZQ rt, ZI ZQ rsp, ZI ZQ rsize, ZI ZQ osp, ZI ZQ onum, ZI ZQ osize, .bool oel, .bool ofl, .bool opr, .bool oect, ZI ZQ delay, .slice ra rn rc, .bool marked, ZI ZQ e0, ZI ZQ e1, ZI ZQ e2, .slice ea en ec, ZI ZQ err, ZI ZQ smooth] 36)).alloc (.cells #[ZI ZQ 3, ZI ZQ es, ZI ZQ em, ZI ZQ ee] 46) = x := ⟨_, rfl⟩
 obtain ⟨R, hRr⟩ : ∃ x, w.heap.size = x := ⟨_, rfl⟩
 have HPL := hide (fun W h => place_any b base k (.slice A k.flying.length c) vp vd ⟨3, es, em, ee⟩ W h hfn)
 obtain ⟨n, hn⟩ : ∃ x, idxF (atP ⟨3, es, em, ee⟩) k.flying 0 = x := ⟨_, rfl⟩
 rw [hn] at HPL
 have HN := hide hn
 have HY := hide (fun rule W => unless_yes rule W)
 have HNO := hide (fun rule W => unless_no rule W)
 go_enter Try.func32, Try.ntmps32
 go_upto_region 1 with (fail)
 rw [hW1, hRr] at hs0
 try rw [hW1]
 try rw [hRr]
 have HS1 := hide hs0
 have x0 := hs0.ev.cell 0
 have x1 := hs0.ev.cell 1
 have x2 := hs0.ev.cell 2
 have x3 := hs0.ev.cell 3
 simp only [ZG, ZH, ZJ] at x0 x1 x2 x3
 clear hs0 hW1 ha hR hRr hn
 go_wp2_with fail
 with_reducible refine (HPL.out _ HS1.out.kn).mono ?_
 rintro y1 W2 ⟨rfl, hb1⟩
 have hs2 := HS1.out.later hb1
 have HS2 := hide hs2
 clear HS1 x0 x1 x2 x3 hb1 HPL
 have x0 := hs2.ev.cell 0
 have x1 := hs2.ev.cell 1
 have x2 := hs2.ev.cell 2
 have x3 := hs2.ev.cell 3
 have r0 := hs2.row.cell 0
 have r1 := hs2.row.cell 1
 have r2 := hs2.row.cell 2
 have r12 := hs2.row.cell 12
 simp only [rwC, ZG, ZH, ZJ] at x0 x1 x2 x3 r0 r1 r2 r12
 clear hs2
 have HSP := hide (fun W => isspace_any es W)
 rw [hsp] at HSP
 have HSPH := hide hsp
 clear HN hsp
 go_wp2_with fail
 with_reducible refine (HSP.out _).mono ?_
 rintro y3 u3 ⟨rfl, rfl⟩
 go_wp2_with fail
 with_reducible refine (HNO.out _ _).mono ?_
 rintro y4 u4 ⟨rfl, rfl⟩
 exact ⟨rfl, StepPost.err (by rw [← HRES.out]; unfold eventP; rw [if_neg (by show ¬ (3 : Int) = 1; omega), if_neg (by show ¬ (3 : Int) = 2; omega), if_pos rfl]; simp only [HSPH.out]; rfl) HS2.out.bl⟩
set_option maxRecDepth 100000 in
set_option maxHeartbeats 8000000 in
theorem event_collapse (b base : Nat) (k : KN) (vf vp vd : Value) (r : RW) (rs : List RGJ) (e : EVJ) (w : World) (hK : KnAt w b base k vf vp vd) (hR : LieAt rgL 2 w base r.ra rs) (hrn : rs.length = r.rn) (hrl : r.rn ≤ 2000) (hfn : k.flying.length ≤ 2000) (hk : e.kind = 5) (htm : timedB r = true) :
  Calls Try.prog 32 #[.pointer (some ⟨b, 0, none⟩), .agg (rwC r), .agg #[ZI ZQ e.kind, ZI ZQ e.sp, ZI ZQ e.num, ZI ZQ e.n]] w (StepPost b base w (eventP k r rs e)) := by
 obtain ⟨A, c, rfl⟩ := own_sl hK.fl
 obtain ⟨kind, rt, rsp, rsize, ⟨osp, onum, osize, oel, ofl, opr, oect⟩, delay, ra, rn, rc, marked, e0, e1, e2, ea, en, ec, err, smooth⟩ := r
 obtain ⟨ek, es, em, ee⟩ := e
 simp only at hR hrn hrl hk htm ⊢
 subst hk
 obtain ⟨res, hres⟩ : ∃ x, eventP k ⟨kind, rt, rsp, rsize, ⟨osp, onum, osize, oel, ofl, opr, oect⟩, delay, ra, rn, rc, marked, e0, e1, e2, ea, en, ec, err, smooth⟩ rs ⟨5, es, em, ee⟩ = x := ⟨_, rfl⟩
 rw [hres]
 have HRES := hide hres
 clear hres
 have hge := hK.ge
 have hbb : base ≤ w.heap.size := Nat.le_of_lt (Nat.lt_of_le_of_lt hK.ge hK.blk.lt)
 unfold rwC
 have ha : Below w.heap.size w ((w.alloc (.cells #[ZI ZQ kind, ZI ZQ rt, ZI ZQ rsp, ZI ZQ rsize, ZI ZQ osp, ZI ZQ onum, ZI ZQ osize, .bool oel, .bool ofl, .bool opr, .bool oect, ZI ZQ delay, .slice ra rn rc, .bool marked, ZI ZQ e0, ZI ZQ e1, ZI ZQ e2, .slice ea en ec, ZI ZQ err, ZI ZQ smooth] 36)).alloc (.cells #[ZI ZQ 5, ZI ZQ es, ZI ZQ em, ZI ZQ ee] 46)) := ((Below.refl _ _).alloc (Nat.le_refl _) _).alloc (by simp) _
 have hs0 : EvSt w ((w.alloc (.cells #[ZI ZQ kind, ZI ZQ rt, ZI ZQ rsp, ZI ZQ rsize, ZI ZQ osp, ZI ZQ onum, ZI ZQ osize, .bool oel, .bool ofl, .bool opr, .bool oect, ZI ZQ delay, .slice ra rn rc, .bool marked, ZI ZQ e0, ZI ZQ e1, ZI ZQ e2, .slice ea en ec, ZI ZQ err, ZI ZQ smooth] 36)).alloc (.cells #[ZI ZQ 5, ZI ZQ es, ZI ZQ em, ZI ZQ ee] 46)) b base k (.slice A k.flying.length c) vp vd w.heap.size (w.heap.size + 1) ⟨kind, rt, rsp, rsize, ⟨osp, onum, osize, oel, ofl, opr, oect⟩, delay, ra, rn, rc, marked, e0, e1, e2, ea, en, ec, err, smooth⟩ ⟨5, es, em, ee⟩ rs := by
  refine ⟨hK.later ha, (Blk.new _ _ _).alloc _, ?_, hR.later (ha.mono hbb), Far.of_below ha hbb⟩
  have := Blk.new (w.alloc (.cells #[ZI ZQ kind, ZI ZQ rt, ZI ZQ rsp, ZI ZQ rsize, ZI ZQ osp, ZI ZQ onum, ZI ZQ osize, .bool oel, .bool ofl, .bool opr, .bool oect, ZI ZQ delay, .slice ra rn rc, .bool marked, ZI ZQ e0, ZI ZQ e1, ZI ZQ e2, .slice ea en ec, ZI ZQ err, ZI ZQ smooth] 36)) 46 #[ZI ZQ 5, ZI ZQ es, ZI ZQ em, ZI ZQ ee]
  simpa using this
 obtain ⟨W1, hW1⟩ : ∃ x, (w.alloc (.cells #[ZI ZQ kind, ZI ZQ rt, ZI ZQ rsp, ZI ZQ rsize, ZI ZQ osp, ZI ZQ onum, ZI ZQ osize, .bool oel, .bool ofl, .bool opr, .bool oect, ZI ZQ delay, .slice ra rn rc, .bool marked, ZI ZQ e0, ZI ZQ e1, ZI ZQ e2, .slice ea en ec, ZI ZQ err, ZI ZQ smooth] 36)).alloc (.cells #[ZI ZQ 5, ZI ZQ es, ZI ZQ em, ZI ZQ ee] 46) = x := ⟨_, rfl⟩
 obtain ⟨R, hRr⟩ : ∃ x, w.heap.size = x := ⟨_, rfl⟩
 have HPL := hide (fun W h => place_any b base k (.slice A k.flying.length c) vp vd ⟨5, es, em, ee⟩ W h hfn)
 obtain ⟨n, hn⟩ : ∃ x, idxF (atP ⟨5, es, em, ee⟩) k.flying 0 = x := ⟨_, rfl⟩
 rw [hn] at HPL
 have HN := hide hn
 have HY := hide (fun rule W => unless_yes rule W)
 have HNO := hide (fun rule W => unless_no rule W)
 go_enter Try.func32, Try.ntmps32
 go_upto_region 1 with (fail)
 rw [hW1, hRr] at hs0
 try rw [hW1]
 try rw [hRr]
 have HS1 := hide hs0
 have x0 := hs0.ev.cell 0
 have x1 := hs0.ev.cell 1
 have x2 := hs0.ev.cell 2
 have x3 := hs0.ev.cell 3
 simp only [ZG, ZH, ZJ] at x0 x1 x2 x3
 clear hs0 hW1 ha hR hRr hn
 go_wp2_with fail
 with_reducible refine (HPL.out _ HS1.out.kn).mono ?_
 rintro y1 W2 ⟨rfl, hb1⟩
 have hs2 := HS1.out.later hb1
 have HS2 := hide hs2
 clear HS1 x0 x1 x2 x3 hb1 HPL
 have x0 := hs2.ev.cell 0
 have x1 := hs2.ev.cell 1
 have x2 := hs2.ev.cell 2
 have x3 := hs2.ev.cell 3
 have r0 := hs2.row.cell 0
 have r1 := hs2.row.cell 1
 have r2 := hs2.row.cell 2
 have r12 := hs2.row.cell 12
 simp only [rwC, ZG, ZH, ZJ] at x0 x1 x2 x3 r0 r1 r2 r12
 clear hs2
 have HTI := hide (fun W => timed_any ⟨kind, rt, rsp, rsize, ⟨osp, onum, osize, oel, ofl, opr, oect⟩, delay, ra, rn, rc, marked, e0, e1, e2, ea, en, ec, err, smooth⟩ W)
 rw [htm] at HTI
 have HTM := hide htm
 clear HN htm
 go_wp2_with (refine wpList_load_row rfl 36 (.tmp 4) rfl R rfl 36 (rwC ⟨kind, rt, rsp, rsize, ⟨osp, onum, osize, oel, ofl, opr, oect⟩, delay, ra, rn, rc, marked, e0, e1, e2, ea, en, ec, err, smooth⟩) (0, 0) _ HS2.out.row Try.underlying36 rfl row_size ?_)
 with_reducible refine (HTI.out _).mono ?_
 rintro y3 u3 ⟨rfl, hb3⟩
 have hs3 := HS2.out.later hb3
 go_wp2_with fail
 with_reducible refine (HY.out _ _).mono ?_
 rintro y4 u4 ⟨rfl, rfl⟩
 go_wp2_with fail
 go_end0
 exact StepPost.ok (by rw [← HRES.out]; unfold eventP; rw [if_neg (by show ¬ (5 : Int) = 1; omega), if_neg (by show ¬ (5 : Int) = 2; omega), if_neg (by show ¬ (5 : Int) = 3; omega), if_pos rfl, if_pos HTM.out]) hs3.kn hs3.bl
set_option maxRecDepth 100000 in
set_option maxHeartbeats 8000000 in
theorem event_none (b base : Nat) (k : KN) (vf vp vd : Value) (r : RW) (rs : List RGJ) (e : EVJ) (w : World) (hK : KnAt w b base k vf vp vd) (hR : LieAt rgL 2 w base r.ra rs) (hrn : rs.length = r.rn) (hrl : r.rn ≤ 2000) (hfn : k.flying.length ≤ 2000) (hk : ¬ e.kind = 1 ∧ ¬ e.kind = 2 ∧ ¬ e.kind = 3 ∧ ¬ e.kind = 4 ∧ ¬ e.kind = 5) :
  Calls Try.prog 32 #[.pointer (some ⟨b, 0, none⟩), .agg (rwC r), .agg #[ZI ZQ e.kind, ZI ZQ e.sp, ZI ZQ e.num, ZI ZQ e.n]] w (StepPost b base w (eventP k r rs e)) := by
 obtain ⟨A, c, rfl⟩ := own_sl hK.fl
 obtain ⟨kind, rt, rsp, rsize, ⟨osp, onum, osize, oel, ofl, opr, oect⟩, delay, ra, rn, rc, marked, e0, e1, e2, ea, en, ec, err, smooth⟩ := r
 obtain ⟨ek, es, em, ee⟩ := e
 simp only at hR hrn hrl hk ⊢
 
 obtain ⟨res, hres⟩ : ∃ x, eventP k ⟨kind, rt, rsp, rsize, ⟨osp, onum, osize, oel, ofl, opr, oect⟩, delay, ra, rn, rc, marked, e0, e1, e2, ea, en, ec, err, smooth⟩ rs ⟨ek, es, em, ee⟩ = x := ⟨_, rfl⟩
 rw [hres]
 have HRES := hide hres
 clear hres
 have hge := hK.ge
 have hbb : base ≤ w.heap.size := Nat.le_of_lt (Nat.lt_of_le_of_lt hK.ge hK.blk.lt)
 unfold rwC
 have ha : Below w.heap.size w ((w.alloc (.cells #[ZI ZQ kind, ZI ZQ rt, ZI ZQ rsp, ZI ZQ rsize, ZI ZQ osp, ZI ZQ onum, ZI ZQ osize, .bool oel, .bool ofl, .bool opr, .bool oect, ZI ZQ delay, .slice ra rn rc, .bool marked, ZI ZQ e0, ZI ZQ e1, ZI ZQ e2, .slice ea en ec, ZI ZQ err, ZI ZQ smooth] 36)).alloc (.cells #[ZI ZQ ek, ZI ZQ es, ZI ZQ em, ZI ZQ ee] 46)) := ((Below.refl _ _).alloc (Nat.le_refl _) _).alloc (by simp) _
 have hs0 : EvSt w ((w.alloc (.cells #[ZI ZQ kind, ZI ZQ rt, ZI ZQ rsp, ZI ZQ rsize, ZI ZQ osp, ZI ZQ onum, ZI ZQ osize, .bool oel, .bool ofl, .bool opr, .bool oect, ZI ZQ delay, .slice ra rn rc, .bool marked, ZI ZQ e0, ZI ZQ e1, ZI ZQ e2, .slice ea en ec, ZI ZQ err, ZI ZQ smooth] 36)).alloc (.cells #[ZI ZQ ek, ZI ZQ es, ZI ZQ em, ZI ZQ ee] 46)) b base k (.slice A k.flying.length c) vp vd w.heap.size (w.heap.size + 1) ⟨kind, rt, rsp, rsize, ⟨osp, onum, osize, oel, ofl, opr, oect⟩, delay, ra, rn, rc, marked, e0, e1, e2, ea, en, ec, err, smooth⟩ ⟨ek, es, em, ee⟩ rs := by
  refine ⟨hK.later ha, (Blk.new _ _ _).alloc _, ?_, hR.later (ha.mono hbb), Far.of_below ha hbb⟩
  have := Blk.new (w.alloc (.cells #[ZI ZQ kind, ZI ZQ rt, ZI ZQ rsp, ZI ZQ rsize, ZI ZQ osp, ZI ZQ onum, ZI ZQ osize, .bool oel, .bool ofl, .bool opr, .bool oect, ZI ZQ delay, .slice ra rn rc, .bool marked, ZI ZQ e0, ZI ZQ e1, ZI ZQ e2, .slice ea en ec, ZI ZQ err, ZI ZQ smooth] 36)) 46 #[ZI ZQ ek, ZI ZQ es, ZI ZQ em, ZI ZQ ee]
  simpa using this
 obtain ⟨W1, hW1⟩ : ∃ x, (w.alloc (.cells #[ZI ZQ kind, ZI ZQ rt, ZI ZQ rsp, ZI ZQ rsize, ZI ZQ osp, ZI ZQ onum, ZI ZQ osize, .bool oel, .bool ofl, .bool opr, .bool oect, ZI ZQ delay, .slice ra rn rc, .bool marked, ZI ZQ e0, ZI ZQ e1, ZI ZQ e2, .slice ea en ec, ZI ZQ err, ZI ZQ smooth] 36)).alloc (.cells #[ZI ZQ ek, ZI ZQ es, ZI ZQ em, ZI ZQ ee] 46) = x := ⟨_, rfl⟩
 obtain ⟨R, hRr⟩ : ∃ x, w.heap.size = x := ⟨_, rfl⟩
 have HPL := hide (fun W h => place_any b base k (.slice A k.flying.length c) vp vd ⟨ek, es, em, ee⟩ W h hfn)
 obtain ⟨n, hn⟩ : ∃ x, idxF (atP ⟨ek, es, em, ee⟩) k.flying 0 = x := ⟨_, rfl⟩
 rw [hn] at HPL
 have HN := hide hn
 have HY := hide (fun rule W => unless_yes rule W)
 have HNO := hide (fun rule W => unless_no rule W)
 go_enter Try.func32, Try.ntmps32
 go_upto_region 1 with (fail)
 rw [hW1, hRr] at hs0
 try rw [hW1]
 try rw [hRr]
 have HS1 := hide hs0
 have x0 := hs0.ev.cell 0
 have x1 := hs0.ev.cell 1
 have x2 := hs0.ev.cell 2
 have x3 := hs0.ev.cell 3
 simp only [ZG, ZH, ZJ] at x0 x1 x2 x3
 clear hs0 hW1 ha hR hRr hn
 go_wp2_with fail
 with_reducible refine (HPL.out _ HS1.out.kn).mono ?_
 rintro y1 W2 ⟨rfl, hb1⟩
 have hs2 := HS1.out.later hb1
 have HS2 := hide hs2
 clear HS1 x0 x1 x2 x3 hb1 HPL
 have x0 := hs2.ev.cell 0
 have x1 := hs2.ev.cell 1
 have x2 := hs2.ev.cell 2
 have x3 := hs2.ev.cell 3
 have r0 := hs2.row.cell 0
 have r1 := hs2.row.cell 1
 have r2 := hs2.row.cell 2
 have r12 := hs2.row.cell 12
 simp only [rwC, ZG, ZH, ZJ] at x0 x1 x2 x3 r0 r1 r2 r12
 clear hs2
 have e1 : (ek == 1) = false := by simpa using hk.1
 have e2 : (ek == 2) = false := by simpa using hk.2.1
 have e3 : (ek == 3) = false := by simpa using hk.2.2.1
 have e4 : (ek == 4) = false := by simpa using hk.2.2.2.1
 have e5 : (ek == 5) = false := by simpa using hk.2.2.2.2
 have HKK := hide hk
 clear hk HN
 go_wp2_with fail
 exact ⟨rfl, StepPost.err (by rw [← HRES.out]; unfold eventP; rw [if_neg HKK.out.1, if_neg HKK.out.2.1, if_neg HKK.out.2.2.1, if_neg HKK.out.2.2.2.2, if_neg HKK.out.2.2.2.1]) HS2.out.bl⟩
set_option maxRecDepth 100000 in
set_option maxHeartbeats 8000000 in
theorem event_early (b base : Nat) (k : KN) (vf vp vd : Value) (r : RW) (rs : List RGJ) (e : EVJ) (w : World) (hK : KnAt w b base k vf vp vd) (hR : LieAt rgL 2 w base r.ra rs) (hrn : rs.length = r.rn) (hrl : r.rn ≤ 2000) (hfn : k.flying.length ≤ 2000) (hk : e.kind = 2) (hr4 : r.kind = 4) (hsp : e.sp = 0) (hat : 0 ≤ idxF (atP e) k.flying 0) (htop : -1 ≤ k.top 0 ∧ k.top 0 ≤ 9007199254740991) (hbe : k.top 0 - 3 < e.num ∧ k.top 0 ≤ e.num) :
  Calls Try.prog 32 #[.pointer (some ⟨b, 0, none⟩), .agg (rwC r), .agg #[ZI ZQ e.kind, ZI ZQ e.sp, ZI ZQ e.num, ZI ZQ e.n]] w (StepPost b base w (eventP k r rs e)) := by
 obtain ⟨A, c, rfl⟩ := own_sl hK.fl
 obtain ⟨kind, rt, rsp, rsize, ⟨osp, onum, osize, oel, ofl, opr, oect⟩, delay, ra, rn, rc, marked, e0, e1, e2, ea, en, ec, err, smooth⟩ := r
 obtain ⟨ek, es, em, ee⟩ := e
 simp only at hR hrn hrl hk ⊢
 subst hk
 simp only at hr4 hsp hat hbe
 subst hr4 hsp
 obtain ⟨res, hres⟩ : ∃ x, eventP k ⟨4, rt, rsp, rsize, ⟨osp, onum, osize, oel, ofl, opr, oect⟩, delay, ra, rn, rc, marked, e0, e1, e2, ea, en, ec, err, smooth⟩ rs ⟨2, 0, em, ee⟩ = x := ⟨_, rfl⟩
 rw [hres]
 have HRES := hide hres
 clear hres
 have hge := hK.ge
 have hbb : base ≤ w.heap.size := Nat.le_of_lt (Nat.lt_of_le_of_lt hK.ge hK.blk.lt)
 unfold rwC
 have ha : Below w.heap.size w ((w.alloc (.cells #[ZI ZQ 4, ZI ZQ rt, ZI ZQ rsp, ZI ZQ rsize, ZI ZQ osp, ZI ZQ onum, ZI ZQ osize, .bool oel, .bool ofl, .bool opr, .bool oect, ZI ZQ delay, .slice ra rn rc, .bool marked, ZI ZQ e0, ZI ZQ e1, ZI ZQ e2, .slice ea en ec, ZI ZQ err, ZI ZQ smooth] 36)).alloc (.cells #[ZI ZQ 2, ZI ZQ 0, ZI ZQ em, ZI ZQ ee] 46)) := ((Below.refl _ _).alloc (Nat.le_refl _) _).alloc (by simp) _
 have hs0 : EvSt w ((w.alloc (.cells #[ZI ZQ 4, ZI ZQ rt, ZI ZQ rsp, ZI ZQ rsize, ZI ZQ osp, ZI ZQ onum, ZI ZQ osize, .bool oel, .bool ofl, .bool opr, .bool oect, ZI ZQ delay, .slice ra rn rc, .bool marked, ZI ZQ e0, ZI ZQ e1, ZI ZQ e2, .slice ea en ec, ZI ZQ err, ZI ZQ smooth] 36)).alloc (.cells #[ZI ZQ 2, ZI ZQ 0, ZI ZQ em, ZI ZQ ee] 46)) b base k (.slice A k.flying.length c) vp vd w.heap.size (w.heap.size + 1) ⟨4, rt, rsp, rsize, ⟨osp, onum, osize, oel, ofl, opr, oect⟩, delay, ra, rn, rc, marked, e0, e1, e2, ea, en, ec, err, smooth⟩ ⟨2, 0, em, ee⟩ rs := by
  refine ⟨hK.later ha, (Blk.new _ _ _).alloc _, ?_, hR.later (ha.mono hbb), Far.of_below ha hbb⟩
  have := Blk.new (w.alloc (.cells #[ZI ZQ 4, ZI ZQ rt, ZI ZQ rsp, ZI ZQ rsize, ZI ZQ osp, ZI ZQ onum, ZI ZQ osize, .bool oel, .bool ofl, .bool opr, .bool oect, ZI ZQ delay, .slice ra rn rc, .bool marked, ZI ZQ e0, ZI ZQ e1, ZI ZQ e2, .slice ea en ec, ZI ZQ err, ZI ZQ smooth] 36)) 46 #[ZI ZQ 2, ZI ZQ 0, ZI ZQ em, ZI ZQ ee]
  simpa using this
 obtain ⟨W1, hW1⟩ : ∃ x, (w.alloc (.cells #[ZI ZQ 4, ZI ZQ rt, ZI ZQ rsp, ZI ZQ rsize, ZI ZQ osp, ZI ZQ onum, ZI ZQ osize, .bool oel, .bool ofl, .bool opr, .bool oect, ZI ZQ delay, .slice ra rn rc, .bool marked, ZI ZQ e0, ZI ZQ e1, ZI ZQ e2, .slice ea en ec, ZI ZQ err, ZI ZQ smooth] 36)).alloc (.cells #[ZI ZQ 2, ZI ZQ 0, ZI ZQ em, ZI ZQ ee] 46) = x := ⟨_, rfl⟩
 obtain ⟨R, hRr⟩ : ∃ x, w.heap.size = x := ⟨_, rfl⟩
 have HPL := hide (fun W h => place_any b base k (.slice A k.flying.length c) vp vd ⟨2, 0, em, ee⟩ W h hfn)
 obtain ⟨n, hn⟩ : ∃ x, idxF (atP ⟨2, 0, em, ee⟩) k.flying 0 = x := ⟨_, rfl⟩
 rw [hn] at HPL
 have HN := hide hn
 rw [hn] at hat
 have HY := hide (fun rule W => unless_yes rule W)
 have HNO := hide (fun rule W => unless_no rule W)
 go_enter Try.func32, Try.ntmps32
 go_upto_region 1 with (fail)
 rw [hW1, hRr] at hs0
 try rw [hW1]
 try rw [hRr]
 have HS1 := hide hs0
 have x0 := hs0.ev.cell 0
 have x1 := hs0.ev.cell 1
 have x2 := hs0.ev.cell 2
 have x3 := hs0.ev.cell 3
 simp only [ZG, ZH, ZJ] at x0 x1 x2 x3
 clear hs0 hW1 ha hR hRr hn
 go_wp2_with fail
 with_reducible refine (HPL.out _ HS1.out.kn).mono ?_
 rintro y1 W2 ⟨rfl, hb1⟩
 have hs2 := HS1.out.later hb1
 have HS2 := hide hs2
 clear HS1 x0 x1 x2 x3 hb1 HPL
 have x0 := hs2.ev.cell 0
 have x1 := hs2.ev.cell 1
 have x2 := hs2.ev.cell 2
 have x3 := hs2.ev.cell 3
 have r0 := hs2.row.cell 0
 have r1 := hs2.row.cell 1
 have r2 := hs2.row.cell 2
 have r12 := hs2.row.cell 12
 simp only [rwC, ZG, ZH, ZJ] at x0 x1 x2 x3 r0 r1 r2 r12
 clear hs2
 have HTI := hide (fun W => timed_any ⟨4, rt, rsp, rsize, ⟨osp, onum, osize, oel, ofl, opr, oect⟩, delay, ra, rn, rc, marked, e0, e1, e2, ea, en, ec, err, smooth⟩ W)
 rw [show timedB ⟨4, rt, rsp, rsize, ⟨osp, onum, osize, oel, ofl, opr, oect⟩, delay, ra, rn, rc, marked, e0, e1, e2, ea, en, ec, err, smooth⟩ = true from rfl] at HTI
 obtain ⟨tp, htp⟩ : ∃ y, k.top 0 = y := ⟨_, rfl⟩
 rw [htp] at htop hbe
 have HTP := hide htp
 clear htp
 go_wp2_with (refine wpList_load_row rfl 36 (.tmp 4) rfl R rfl 36 (rwC ⟨4, rt, rsp, rsize, ⟨osp, onum, osize, oel, ofl, opr, oect⟩, delay, ra, rn, rc, marked, e0, e1, e2, ea, en, ec, err, smooth⟩) (0, 0) _ HS2.out.row Try.underlying36 rfl row_size ?_)
 with_reducible refine (HTI.out _).mono ?_
 rintro y3 W3 ⟨rfl, hb3⟩
 have hs3 := HS2.out.later hb3
 have HS3 := hide hs3
 clear HS2 hb3 x0 x1 x2 x3 r0 r1 r2 r12
 have x1 := hs3.ev.cell 1
 have x2 := hs3.ev.cell 2
 have r0 := hs3.row.cell 0
 have k20 := hs3.kn.blk.cell 20
 simp only [rwC, knC, ZG, ZH, ZJ] at x1 x2 r0 k20
 rw [HTP.out] at k20
 clear hs3
 go_wp2_with fail
 with_reducible refine (HY.out _ _).mono ?_
 rintro y4 u4 ⟨rfl, rfl⟩
 go_wp2_with fail
 go_quiet (fail)
 obtain ⟨W4, hW4⟩ : ∃ x, W3.drewN nq = x := ⟨_, rfl⟩
 have hs4 := HS3.out.later (below_drewN (Below.refl _ _) nq)
 rw [hW4] at hs4
 try rw [hW4]
 have HS4 := hide hs4
 clear hW4 HS3 x1 x2 r0 k20
 have x2 := hs4.ev.cell 2
 simp only [ZG, ZH, ZJ] at x2
 clear hs4
 have d1 : decide (em ≤ tp - 3) = false := decide_eq_false (by omega)
 have d2 : decide (em < tp) = false := decide_eq_false (by omega)
 go_wp2_with fail
 have hw3 : IntKind.i64.wrap (tp - 3) = tp - 3 := IntWalk.i64_in _ ⟨by omega, by omega⟩
 clear x2
 refine wp_region_held_drew (S := (fun w' => EvSt w w' b base k (.slice A k.flying.length c) vp vd R (R + 1) ⟨4, rt, rsp, rsize, ⟨osp, onum, osize, oel, ofl, opr, oect⟩, delay, ra, rn, rc, marked, e0, e1, e2, ea, en, ec, err, smooth⟩ ⟨2, 0, em, ee⟩ rs)) (by kernel_rfl) (HS4.out.later (below_drewN (Below.refl _ _) 1)) (fun hHeld => ?_)
 refine tkH 0 ?_ rfl blB ?_ ?_
 rotate_left
 ·intro w' hSw; (try dsimp only at hSw); have x2 := (EvSt.ev hSw).cell 2; simp only [ZG, ZH, ZJ] at x2; go_simp; try with_reducible rfl
 try simp only [ZP, ZA, ZB, ZC, ZD, ZE, ZF]
 refine tkH 1 ?_ rfl blB ?_ ?_
 rotate_left
 ·intro w' hSw; (try dsimp only at hSw); have x2 := (EvSt.ev hSw).cell 2; simp only [ZG, ZH, ZJ] at x2; go_simp; try with_reducible rfl
 try simp only [ZP, ZA, ZB, ZC, ZD, ZE, ZF]
 refine tkH 2 ?_ rfl blB ?_ ?_
 rotate_left
 ·intro w' hSw; (try dsimp only at hSw); have x2 := (EvSt.ev hSw).cell 2; simp only [ZG, ZH, ZJ] at x2; go_simp; try with_reducible rfl
 try simp only [ZP, ZA, ZB, ZC, ZD, ZE, ZF]
 refine tkH 3 ?_ rfl blB ?_ ?_
 rotate_left
 ·intro w' hSw; (try dsimp only at hSw); have x2 := (EvSt.ev hSw).cell 2; simp only [ZG, ZH, ZJ] at x2; go_simp; try with_reducible rfl
 try simp only [ZP, ZA, ZB, ZC, ZD, ZE, ZF]
 refine tkH 4 ?_ rfl blB ?_ ?_
 rotate_left
 ·intro w' hSw; (try dsimp only at hSw); have x2 := (EvSt.ev hSw).cell 2; simp only [ZG, ZH, ZJ] at x2; go_simp; try with_reducible rfl
 try simp only [ZP, ZA, ZB, ZC, ZD, ZE, ZF]
 refine tkH 5 ?_ rfl blB ?_ ?_
 rotate_left
 ·intro w' hSw; (try dsimp only at hSw); have x2 := (EvSt.ev hSw).cell 2; simp only [ZG, ZH, ZJ] at x2; go_simp; try with_reducible rfl
 try simp only [ZP, ZA, ZB, ZC, ZD, ZE, ZF]
 refine tkH 6 ?_ rfl blB ?_ ?_
 rotate_left
 ·intro w' hSw; (try dsimp only at hSw); have x2 := (EvSt.ev hSw).cell 2; simp only [ZG, ZH, ZJ] at x2; go_simp; try with_reducible rfl
 try simp only [ZP, ZA, ZB, ZC, ZD, ZE, ZF]
 refine tkH 7 ?_ rfl blB ?_ ?_
 rotate_left
 ·intro w' hSw; (try dsimp only at hSw); have x2 := (EvSt.ev hSw).cell 2; simp only [ZG, ZH, ZJ] at x2; go_simp; try with_reducible rfl
 try simp only [ZP, ZA, ZB, ZC, ZD, ZE, ZF]
 refine tkH 8 ?_ rfl blB ?_ ?_
 rotate_left
 ·intro w' hSw; (try dsimp only at hSw); have x2 := (EvSt.ev hSw).cell 2; simp only [ZG, ZH, ZJ] at x2; go_simp; try with_reducible rfl
 try simp only [ZP, ZA, ZB, ZC, ZD, ZE, ZF]
 refine tkH 9 ?_ rfl blB ?_ ?_
 rotate_left
 ·intro w' hSw; (try dsimp only at hSw); have x2 := (EvSt.ev hSw).cell 2; simp only [ZG, ZH, ZJ] at x2; go_simp; try with_reducible rfl
 try simp only [ZP, ZA, ZB, ZC, ZD, ZE, ZF]
 refine tkH 10 ?_ rfl blB ?_ ?_
 rotate_left
 ·intro w' hSw; (try dsimp only at hSw); have x2 := (EvSt.ev hSw).cell 2; simp only [ZG, ZH, ZJ] at x2; go_simp; try with_reducible rfl
 try simp only [ZP, ZA, ZB, ZC, ZD, ZE, ZF]
 refine tkU 11 rfl blB ?_
 try simp only [ZP, ZA, ZB, ZC, ZD, ZE, ZF]
 refine tkU 12 rfl blB ?_
 try simp only [ZP, ZA, ZB, ZC, ZD, ZE, ZF]
 refine tkU 13 rfl blB ?_
 try simp only [ZP, ZA, ZB, ZC, ZD, ZE, ZF]
 refine tkU 14 rfl blB ?_
 try simp only [ZP, ZA, ZB, ZC, ZD, ZE, ZF]
 refine tkU 15 rfl blB ?_
 try simp only [ZP, ZA, ZB, ZC, ZD, ZE, ZF]
 refine tkU 16 rfl blB ?_
 try simp only [ZP, ZA, ZB, ZC, ZD, ZE, ZF]
 refine tkU 17 rfl blB ?_
 try simp only [ZP, ZA, ZB, ZC, ZD, ZE, ZF]
 refine tkU 18 rfl blB ?_
 try simp only [ZP, ZA, ZB, ZC, ZD, ZE, ZF]
 refine tkU 19 rfl blB ?_
 try simp only [ZP, ZA, ZB, ZC, ZD, ZE, ZF]
 refine tkU 20 rfl blB ?_
 try simp only [ZP, ZA, ZB, ZC, ZD, ZE, ZF]
 refine tkU 21 rfl blB ?_
 try simp only [ZP, ZA, ZB, ZC, ZD, ZE, ZF]
 refine tkU 22 rfl blB ?_
 try simp only [ZP, ZA, ZB, ZC, ZD, ZE, ZF]
 refine tkH 23 ?_ rfl blB ?_ ?_
 rotate_left
 ·intro w' hSw; (try dsimp only at hSw); have x2 := (EvSt.ev hSw).cell 2; simp only [ZG, ZH, ZJ] at x2; go_simp; try with_reducible rfl
 try simp only [ZP, ZA, ZB, ZC, ZD, ZE, ZF]
 refine tkH 24 ?_ rfl blB ?_ ?_
 rotate_left
 ·intro w' hSw; (try dsimp only at hSw); have x2 := (EvSt.ev hSw).cell 2; simp only [ZG, ZH, ZJ] at x2; go_simp; try with_reducible rfl
 try simp only [ZP, ZA, ZB, ZC, ZD, ZE, ZF]
 refine tkR [25] ?_
 refine ZS rfl (fun K hK => ?_) ZN
 go_simp
 go_at_call 23
 with_reducible refine (HNO.out _ _).mono ?_
 rintro y5 u5 ⟨rfl, rfl⟩
 exact ⟨rfl, StepPost.err (by
  rw [← HRES.out]
  unfold eventP
  rw [if_neg (by show ¬ (2 : Int) = 1; omega), if_pos rfl]
  split
  ·rw [if_neg]
   show ¬ ((decide (em ≤ k.top 0 - 3) || (decide (em < k.top 0) && _)) = true)
   rw [HTP.out, d1, d2]
   simp
  ·rfl) (EvSt.bl hHeld)⟩
end Go.Proofs.Ytidfngcclbhoaaa

namespace Go.Proofs.Ytidfngcclbhoaaa
open List renaming getElem_toArray → ZA, getElem_cons_zero → ZB, getElem_cons_succ → ZC, setIfInBounds_toArray → ZD, set_cons_zero → ZE, set_cons_succ → ZF, getElem?_toArray → ZG, getElem?_cons_zero → ZH, getElem?_cons_succ → ZJ
open Go.AllReadyH renaming cons → ZS, nil → ZN
open Go.Act renaming put → ZP
open Go.Value renaming int → ZI
open Go.IntKind renaming i64 → ZQ
set_option linter.unusedSimpArgs false
set_option linter.unusedVariables false
open Go.RowKit Go.Shelf
set_option maxRecDepth 100000 in
set_option maxHeartbeats 4000000 in
theorem nothing_any (b base : Nat) (k : KN) (vf vp vd : Value) (r : RW) (w : World) (hK : KnAt w b base k vf vp vd)  :
  Calls Try.prog 26 #[.pointer (some ⟨b, 0, none⟩), .agg (rwC r)] w (StepPost b base w (.ok k)) := by
 obtain ⟨kind, rt, rsp, rsize, ⟨osp, onum, osize, oel, ofl, opr, oect⟩, delay, ra, rn, rc, marked, e0, e1, e2, ea, en, ec, err, smooth⟩ := r
 have hbb : base ≤ w.heap.size := Nat.le_of_lt (Nat.lt_of_le_of_lt hK.ge hK.blk.lt)
 have ha : Below w.heap.size w (w.alloc (.cells (rwC ⟨kind, rt, rsp, rsize, ⟨osp, onum, osize, oel, ofl, opr, oect⟩, delay, ra, rn, rc, marked, e0, e1, e2, ea, en, ec, err, smooth⟩) 36)) := (Below.refl _ _).alloc (Nat.le_refl _) _
 have hK1 := hK.later ha
 have hB1 := Blk.new w 36 (rwC ⟨kind, rt, rsp, rsize, ⟨osp, onum, osize, oel, ofl, opr, oect⟩, delay, ra, rn, rc, marked, e0, e1, e2, ea, en, ec, err, smooth⟩)
 have hbl : Far base w _ := Far.of_below ha hbb
 obtain ⟨W1, hW1⟩ : ∃ x, w.alloc (.cells (rwC ⟨kind, rt, rsp, rsize, ⟨osp, onum, osize, oel, ofl, opr, oect⟩, delay, ra, rn, rc, marked, e0, e1, e2, ea, en, ec, err, smooth⟩) 36) = x := ⟨_, rfl⟩
 obtain ⟨R, hRr⟩ : ∃ x, w.heap.size = x := ⟨_, rfl⟩
 rw [hW1] at hK1 hB1 hbl
 rw [hRr] at hB1
 have HK1 := hide hK1
 have HBL := hide hbl
 unfold rwC at hW1 ⊢
 go_enter Try.func26, Try.ntmps26
 go_wp2_with fail
 go_end0
 try rw [hW1]
 exact StepPost.ok rfl HK1.out HBL.out
set_option maxRecDepth 100000 in
set_option maxHeartbeats 4000000 in
theorem gets_any (b base : Nat) (k : KN) (vf vp vd : Value) (r : RW) (w : World) (hK : KnAt w b base k vf vp vd)  :
  Calls Try.prog 29 #[.pointer (some ⟨b, 0, none⟩), .agg (rwC r)] w (StepPost b base w (.ok { k with got := addI k.got r.size })) := by
 obtain ⟨kind, rt, rsp, rsize, ⟨osp, onum, osize, oel, ofl, opr, oect⟩, delay, ra, rn, rc, marked, e0, e1, e2, ea, en, ec, err, smooth⟩ := r
 have hbb : base ≤ w.heap.size := Nat.le_of_lt (Nat.lt_of_le_of_lt hK.ge hK.blk.lt)
 have ha : Below w.heap.size w (w.alloc (.cells (rwC ⟨kind, rt, rsp, rsize, ⟨osp, onum, osize, oel, ofl, opr, oect⟩, delay, ra, rn, rc, marked, e0, e1, e2, ea, en, ec, err, smooth⟩) 36)) := (Below.refl _ _).alloc (Nat.le_refl _) _
 have hK1 := hK.later ha
 have hB1 := Blk.new w 36 (rwC ⟨kind, rt, rsp, rsize, ⟨osp, onum, osize, oel, ofl, opr, oect⟩, delay, ra, rn, rc, marked, e0, e1, e2, ea, en, ec, err, smooth⟩)
 have hbl : Far base w _ := Far.of_below ha hbb
 obtain ⟨W1, hW1⟩ : ∃ x, w.alloc (.cells (rwC ⟨kind, rt, rsp, rsize, ⟨osp, onum, osize, oel, ofl, opr, oect⟩, delay, ra, rn, rc, marked, e0, e1, e2, ea, en, ec, err, smooth⟩) 36) = x := ⟨_, rfl⟩
 obtain ⟨R, hRr⟩ : ∃ x, w.heap.size = x := ⟨_, rfl⟩
 rw [hW1] at hK1 hB1 hbl
 rw [hRr] at hB1
 have HK1 := hide hK1
 have HBL := hide hbl
 unfold rwC at hW1 ⊢
 have HAD := hide (fun W => still_add (jadd_any k.got rsize W))
 go_enter Try.func29, Try.ntmps29
 go_upto_region 1 with (fail)
 try rw [hW1]
 try rw [hRr]
 clear hW1 hRr ha hK
 have r3 := hB1.drew.cell 3
 have k12 := hK1.drew.blk.cell 12
 have f12 := hK1.drew.blk.frozen 12
 simp only [knC, rwC, ZG, ZH, ZJ] at r3 k12
 clear hK1 hB1 hbl
 refine wp_region_still_tail 10 (by kernel_rfl) (by kernel_rfl) ?_
 simp only [List.take_succ_cons, List.take_zero, List.drop_succ_cons, List.drop_zero]
 change wpStill _ _ W1.drew _ _ _
 repeat (refine wpStill_step (fun K hK => ?_); go_simp; (first | (with_reducible refine hK _ ?_) | with_reducible refine ⟨_, HAD.out _, hK _ ?_⟩); clear hK K)
 refine wpStill_nil ?_
 change wpList _ _ _ _ _ W1.drew
 go_wp2_with fail
 go_end0
 exact StepPost.ok rfl (HK1.out.put 12 (ZI ZQ (addI k.got rsize)) { k with got := addI k.got rsize } rfl rfl rfl rfl).drew ((HBL.out.set HK1.out.blk HK1.out.ge _ _).later (below_drewN (Below.refl _ _) 1) (by simp [World.setCell]; exact Nat.le_of_lt (Nat.lt_of_le_of_lt HK1.out.ge HK1.out.blk.lt)))
set_option maxRecDepth 100000 in
set_option maxHeartbeats 4000000 in
theorem acks_none (b base : Nat) (k : KN) (vf vp vd : Value) (r : RW) (w : World) (hK : KnAt w b base k vf vp vd) (hsp : (decide (0 ≤ r.sp) && decide (r.sp < 3)) = false) :
  Calls Try.prog 28 #[.pointer (some ⟨b, 0, none⟩), .agg (rwC r)] w (StepPost b base w (.ok k)) := by
 obtain ⟨kind, rt, rsp, rsize, ⟨osp, onum, osize, oel, ofl, opr, oect⟩, delay, ra, rn, rc, marked, e0, e1, e2, ea, en, ec, err, smooth⟩ := r
 simp only at hsp
 have hbb : base ≤ w.heap.size := Nat.le_of_lt (Nat.lt_of_le_of_lt hK.ge hK.blk.lt)
 have ha : Below w.heap.size w (w.alloc (.cells (rwC ⟨kind, rt, rsp, rsize, ⟨osp, onum, osize, oel, ofl, opr, oect⟩, delay, ra, rn, rc, marked, e0, e1, e2, ea, en, ec, err, smooth⟩) 36)) := (Below.refl _ _).alloc (Nat.le_refl _) _
 have hK1 := hK.later ha
 have hB1 := Blk.new w 36 (rwC ⟨kind, rt, rsp, rsize, ⟨osp, onum, osize, oel, ofl, opr, oect⟩, delay, ra, rn, rc, marked, e0, e1, e2, ea, en, ec, err, smooth⟩)
 have hbl : Far base w _ := Far.of_below ha hbb
 obtain ⟨W1, hW1⟩ : ∃ x, w.alloc (.cells (rwC ⟨kind, rt, rsp, rsize, ⟨osp, onum, osize, oel, ofl, opr, oect⟩, delay, ra, rn, rc, marked, e0, e1, e2, ea, en, ec, err, smooth⟩) 36) = x := ⟨_, rfl⟩
 obtain ⟨R, hRr⟩ : ∃ x, w.heap.size = x := ⟨_, rfl⟩
 rw [hW1] at hK1 hB1 hbl
 rw [hRr] at hB1
 have HK1 := hide hK1
 have HBL := hide hbl
 unfold rwC at hW1 ⊢
 have HSP := hide (fun W => isspace_any rsp W)
 rw [hsp] at HSP
 clear hsp
 go_enter Try.func28, Try.ntmps28
 go_upto_region 1 with (fail)
 try rw [hW1]
 try rw [hRr]
 clear hW1 hRr ha hK
 have r2 := hB1.cell 2
 simp only [rwC, ZG, ZH, ZJ] at r2
 clear hK1 hB1 hbl
 go_wp2_with fail
 with_reducible refine (HSP.out _).mono ?_
 rintro y1 u1 ⟨rfl, rfl⟩
 go_wp2_with fail
 go_end0
 exact StepPost.ok rfl HK1.out HBL.out
def spP (n : Int) (p : PKT) : Bool := p.o.sp == n
set_option maxRecDepth 100000 in
set_option maxHeartbeats 2000000 in
theorem discard1_any (n : Int) (p : PKT) (X : Nat) (w : World) (h2 : w.cell? ⟨X, 2, none⟩ = some (ZI ZQ n)) :
  Calls Try.prog 59 #[.agg #[ZI ZQ p.o.sp, ZI ZQ p.o.num, ZI ZQ p.o.size, .bool p.o.el, .bool p.o.fl, .bool p.o.pr, .bool p.o.ect, ZI ZQ p.t], .pointer (some ⟨X, 0, none⟩)] w fun e' w' => e' = .returned (.bool (spP n p)) ∧ Below w.heap.size w w' := by
 have hX := jcell_lt h2
 have c2 := (World.cell?_alloc_lt w (.cells #[ZI ZQ p.o.sp, ZI ZQ p.o.num, ZI ZQ p.o.size, .bool p.o.el, .bool p.o.fl, .bool p.o.pr, .bool p.o.ect, ZI ZQ p.t] 106) ⟨X, 2, none⟩ hX).trans h2
 obtain ⟨⟨a, b, c, el, fl, pr, ect⟩, t⟩ := p
 simp only at c2 ⊢
 clear h2
 cases ha : (a == n)
 all_goals
  go_enter Try.func59, Try.ntmps59
  go_wp2_with fail
  go_ret
  exact ⟨by simp [spP, ha], (Below.refl _ _).alloc (Nat.le_refl _) _⟩
set_option maxRecDepth 100000 in
set_option maxHeartbeats 2000000 in
theorem idx_sp (n : Int) (X : Nat) (a : Option Addr) (len cap : Nat) (l : List PKT) (w : World) (hlen : l.length = len) (hl : len ≤ 2000) (hR : LieAt pktL 8 w w.heap.size a l) (h2 : w.cell? ⟨X, 2, none⟩ = some (ZI ZQ n)) :
  Calls Try.prog 72 #[.slice a len cap, .func (.func 59) #[] #[.pointer (some ⟨X, 0, none⟩)]] w fun e w' => e = .returned (ZI ZQ (idxF (spP n) l 0)) ∧ Below w.heap.size w w' := by
 have HR := hide hR
 have HL := hide hlen
 have HC := hide (show ∀ W, Below w.heap.size w W → ∀ x : PKT, Calls Try.prog 59 #[.agg #[ZI ZQ x.o.sp, ZI ZQ x.o.num, ZI ZQ x.o.size, .bool x.o.el, .bool x.o.fl, .bool x.o.pr, .bool x.o.ect, ZI ZQ x.t], .pointer (some ⟨X, 0, none⟩)] W fun e w' => e = .returned (.bool ((spP n) x)) ∧ Below W.heap.size W w' from by
  intro W hb x
  exact discard1_any n x X W ((hb.cell (p := ⟨X, 2, none⟩) (jcell_lt h2)).trans h2))
 clear hR hlen h2
 go_enter Try.func72, Try.ntmps72
 go_wp2_with fail
 go_loopg [8] len (fun kx s8 wr => ∃ i : Nat, s8 = ZI ZQ i ∧ i ≤ len ∧ len - i ≤ kx ∧ Hid (idxF (spP n) l 0 = idxF (spP n) (l.drop i) i) ∧ Below w.heap.size w wr)
 case atStart => exact ⟨0, rfl, by omega, by omega, rfl, Below.refl _ _⟩
 case round =>
  obtain ⟨i, rfl, hi, hkx, hany, hB⟩ := hrel
  by_cases hlt : i < len
  ·have hir : i < l.length := by rw [HL.out]; exact hlt
   obtain ⟨x, hx⟩ : ∃ x, l[i]? = some x := ⟨_, List.getElem?_eq_getElem hir⟩
   have hd : l.drop i = x :: l.drop (i + 1) := by
    rw [List.drop_eq_getElem_cons hir]
    congr 1
    rw [List.getElem?_eq_getElem hir] at hx
    exact Option.some.inj hx
   obtain ⟨g, o, rfl, hg, hz⟩ := (HR.out.later hB).at hx
   have z0 := hz 0 _ (by omega) rfl
   have z1 := hz 1 _ (by omega) rfl
   have z2 := hz 2 _ (by omega) rfl
   have z3 := hz 3 _ (by omega) rfl
   have z4 := hz 4 _ (by omega) rfl
   have z5 := hz 5 _ (by omega) rfl
   have z6 := hz 6 _ (by omega) rfl
   have z7 := hz 7 _ (by omega) rfl
   simp only [Nat.add_zero] at z0
   have HA : Hid (idxF (spP n) l 0 = if (spP n) x then (i : Int) else idxF (spP n) (l.drop (i + 1)) (i + 1)) := by show _ = _; rw [hany, hd]; rfl
   have HW := hide (HC.out wr hB x)
   have hin : (i : Int) < (len : Int) := by omega
   have HB := hide hB
   clear hany hd hx hir hB hz
   cases hq : (spP n) x with
   | true =>
    rw [hq] at HW HA
    go_wp2_with fail
    with_reducible refine HW.out.mono ?_
    rintro e1 w1 ⟨rfl, hb⟩
    go_wp2_with fail
    go_ret
    exact ⟨by rw [HA.out]; rfl, HB.out.trans (hb.mono HB.out.size)⟩
   | false =>
    rw [hq] at HW HA
    go_wp2_with fail
    with_reducible refine HW.out.mono ?_
    rintro e1 w1 ⟨rfl, hb⟩
    go_wp2_with fail
    go_roundg (len - (i + 1))
    case rel => exact ⟨i + 1, by go_num, by omega, by omega, (by show _ = _; rw [HA.out]; rfl), HB.out.trans (hb.mono HB.out.size)⟩
    case measure => omega
  ·obtain rfl : i = len := by omega
   have hin : ¬ (i : Int) < (i : Int) := by omega
   have HA : Hid (idxF (spP n) l 0 = -1) := by show _ = _; rw [hany, List.drop_of_length_le (by rw [HL.out]; exact Nat.le_refl _)]; rfl
   clear hany
   go_wp2_with fail
   go_ret
   exact ⟨by rw [HA.out]; rfl, hB⟩
set_option maxRecDepth 100000 in
set_option maxHeartbeats 2000000 in
theorem delfunc_none (n : Int) (X : Nat) (a : Option Addr) (len cap : Nat) (l : List PKT) (w : World) (hlen : l.length = len) (hl : len ≤ 2000) (hR : LieAt pktL 8 w w.heap.size a l) (h2 : w.cell? ⟨X, 2, none⟩ = some (ZI ZQ n)) (hno : l.any (spP n) = false) :
  Calls Try.prog 58 #[.slice a len cap, .func (.func 59) #[] #[.pointer (some ⟨X, 0, none⟩)]] w fun e w' => e = .returned (.slice a len cap) ∧ Below w.heap.size w w' := by
 have H := hide (idx_sp n X a len cap l w hlen hl hR h2)
 rw [(idxF_any (spP n) l 0).2 hno] at H
 clear hR h2 hno
 go_enter Try.func58, Try.ntmps58
 go_wp2_with fail
 with_reducible refine H.out.mono ?_
 rintro e1 w1 ⟨rfl, hb⟩
 go_wp2_with fail
 go_ret
 exact ⟨rfl, hb⟩
set_option maxRecDepth 100000 in
set_option maxHeartbeats 4000000 in
theorem discards_none (b base : Nat) (k : KN) (vf vp vd : Value) (r : RW) (w : World) (hK : KnAt w b base k vf vp vd) (hfn : k.flying.length ≤ 2000) (hno : k.flying.any (spP r.sp) = false) :
  Calls Try.prog 30 #[.pointer (some ⟨b, 0, none⟩), .agg (rwC r)] w (StepPost b base w (.ok k)) := by
 obtain ⟨kind, rt, rsp, rsize, ⟨osp, onum, osize, oel, ofl, opr, oect⟩, delay, ra, rn, rc, marked, e0, e1, e2, ea, en, ec, err, smooth⟩ := r
 obtain ⟨A, c, rfl⟩ := own_sl hK.fl
 simp only at hno
 have hbb : base ≤ w.heap.size := Nat.le_of_lt (Nat.lt_of_le_of_lt hK.ge hK.blk.lt)
 have ha : Below w.heap.size w (w.alloc (.cells (rwC ⟨kind, rt, rsp, rsize, ⟨osp, onum, osize, oel, ofl, opr, oect⟩, delay, ra, rn, rc, marked, e0, e1, e2, ea, en, ec, err, smooth⟩) 36)) := (Below.refl _ _).alloc (Nat.le_refl _) _
 have hK1 := hK.later ha
 have hB1 := Blk.new w 36 (rwC ⟨kind, rt, rsp, rsize, ⟨osp, onum, osize, oel, ofl, opr, oect⟩, delay, ra, rn, rc, marked, e0, e1, e2, ea, en, ec, err, smooth⟩)
 have hbl : Far base w _ := Far.of_below ha hbb
 obtain ⟨W1, hW1⟩ : ∃ x, w.alloc (.cells (rwC ⟨kind, rt, rsp, rsize, ⟨osp, onum, osize, oel, ofl, opr, oect⟩, delay, ra, rn, rc, marked, e0, e1, e2, ea, en, ec, err, smooth⟩) 36) = x := ⟨_, rfl⟩
 obtain ⟨R, hRr⟩ : ∃ x, w.heap.size = x := ⟨_, rfl⟩
 rw [hW1] at hK1 hB1 hbl
 rw [hRr] at hB1
 have HK1 := hide hK1
 have HBL := hide hbl
 unfold rwC at hW1 ⊢
 have HDF := hide (fun W (h : KnAt W b base k (.slice A k.flying.length c) vp vd) (h2 : W.cell? ⟨R, 2, none⟩ = some (ZI ZQ rsp)) => delfunc_none rsp R A k.flying.length c k.flying W rfl hfn (lie_own pktL_length h.fl rfl) h2 hno)
 clear hno hfn
 go_enter Try.func30, Try.ntmps30
 go_upto_region 1 with (fail)
 try rw [hW1]
 try rw [hRr]
 clear hW1 hRr ha hK
 have k16 := hK1.blk.cell 16
 simp only [knC, ZG, ZH, ZJ] at k16
 have HR2 := hide (hB1.cell 2)
 clear hK1 hB1 hbl
 go_wp2_with fail
 refine (HDF.out _ HK1.out HR2.out).mono ?_
 rintro y1 W2 ⟨rfl, hb⟩
 have hK2 := HK1.out.later hb
 have HK2 := hide hK2
 have HBL2 := hide (HBL.out.later hb (Nat.le_of_lt (Nat.lt_of_le_of_lt HK1.out.ge HK1.out.blk.lt)))
 clear k16 HDF HR2 HK1 HBL hb
 have k16 := hK2.blk.cell 16
 have f16 := hK2.blk.frozen 16
 simp only [knC, ZG, ZH, ZJ] at k16
 clear hK2
 go_wp2_with fail
 go_end0
 exact StepPost.ok rfl (HK2.out.put 16 (.slice A k.flying.length c) k rfl rfl rfl rfl) (HBL2.out.set HK2.out.blk HK2.out.ge _ _)
end Go.Proofs.Ytidfngcclbhoaaa
