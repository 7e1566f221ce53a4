/-
 The document: event: 3 texts in one (JrEventW, JrEventP, JrEventC).
-/
import Derived.Test.YtidfngcclbhoaaaMjRefA
import Derived.StillTail
import Derived.Deep.RegionHeld3
namespace Go.Proofs.Ytidfngcclbhoaaa
open List renaming getElem?_toArray → ZG, getElem?_cons_zero → ZH, getElem?_cons_succ → ZJ
open Go.Value renaming int → ZI
open Go.IntKind renaming i64 → ZQ
set_option linter.unusedSimpArgs false
set_option linter.unusedVariables false
open Go.RowKit Go.Shelf
set_option maxRecDepth 100000 in
set_option maxHeartbeats 8000000 in
theorem rev_window (b base : Nat) (k : KN) (vL vA vR vP : Value) (r : RW) (rs : List RGJ) (e : EVJ) (w : World) (hK : KrAt w b base k vL vA vR vP) (hR : LieAt rgL 2 w base r.ra rs) (hrn : rs.length = r.rn) (hrl : r.rn ≤ 2000) (hfn : k.flying.length ≤ 2000) (hk : e.kind = 4) (htm : timedB r = true) (hcd : 0 ≤ k.c.d ∧ k.c.d ≤ 65527) (hlo : 2 * k.c.d ≤ e.n) (hhi : e.n ≤ k.c.most) :
  Calls Try.prog 80 #[.pointer (some ⟨b, 0, none⟩), .agg (rwC r), .agg #[ZI ZQ e.kind, ZI ZQ e.sp, ZI ZQ e.num, ZI ZQ e.n]] w (RefPost b base w (eventP k r rs e)) := by
 obtain ⟨kind, rt, rsp, rsize, ⟨osp, onum, osize, oel, ofl, opr, oect⟩, delay, ra, rn, rc, marked, e0, e1, e2, ea, en, ec, err, smooth⟩ := r
 obtain ⟨ek, es, em, ee⟩ := e
 simp only at hR hrn hrl hk htm hlo hhi ⊢
 subst hk
 obtain ⟨res, hres⟩ : ∃ x, eventP k ⟨kind, rt, rsp, rsize, ⟨osp, onum, osize, oel, ofl, opr, oect⟩, delay, ra, rn, rc, marked, e0, e1, e2, ea, en, ec, err, smooth⟩ rs ⟨4, es, em, ee⟩ = x := ⟨_, rfl⟩
 rw [hres]
 have HRES := hide hres
 clear hres
 have hge := hK.ge
 have hbb : base ≤ w.heap.size := Nat.le_of_lt (Nat.lt_of_le_of_lt hK.ge hK.blk.lt)
 unfold rwC
 have ha : Below w.heap.size w ((w.alloc (.cells #[ZI ZQ kind, ZI ZQ rt, ZI ZQ rsp, ZI ZQ rsize, ZI ZQ osp, ZI ZQ onum, ZI ZQ osize, .bool oel, .bool ofl, .bool opr, .bool oect, ZI ZQ delay, .slice ra rn rc, .bool marked, ZI ZQ e0, ZI ZQ e1, ZI ZQ e2, .slice ea en ec, ZI ZQ err, ZI ZQ smooth] 93)).alloc (.cells #[ZI ZQ 4, ZI ZQ es, ZI ZQ em, ZI ZQ ee] 46)) := ((Below.refl _ _).alloc (Nat.le_refl _) _).alloc (by simp) _
 have hs0 : RvSt w ((w.alloc (.cells #[ZI ZQ kind, ZI ZQ rt, ZI ZQ rsp, ZI ZQ rsize, ZI ZQ osp, ZI ZQ onum, ZI ZQ osize, .bool oel, .bool ofl, .bool opr, .bool oect, ZI ZQ delay, .slice ra rn rc, .bool marked, ZI ZQ e0, ZI ZQ e1, ZI ZQ e2, .slice ea en ec, ZI ZQ err, ZI ZQ smooth] 93)).alloc (.cells #[ZI ZQ 4, ZI ZQ es, ZI ZQ em, ZI ZQ ee] 46)) b base k vL vA vR vP w.heap.size (w.heap.size + 1) ⟨kind, rt, rsp, rsize, ⟨osp, onum, osize, oel, ofl, opr, oect⟩, delay, ra, rn, rc, marked, e0, e1, e2, ea, en, ec, err, smooth⟩ ⟨4, es, em, ee⟩ rs := by
  refine ⟨hK.later ha, (Blk.new _ _ _).alloc _, ?_, hR.later (ha.mono hbb), FarR.of_below ha hbb⟩
  have := Blk.new (w.alloc (.cells #[ZI ZQ kind, ZI ZQ rt, ZI ZQ rsp, ZI ZQ rsize, ZI ZQ osp, ZI ZQ onum, ZI ZQ osize, .bool oel, .bool ofl, .bool opr, .bool oect, ZI ZQ delay, .slice ra rn rc, .bool marked, ZI ZQ e0, ZI ZQ e1, ZI ZQ e2, .slice ea en ec, ZI ZQ err, ZI ZQ smooth] 93)) 46 #[ZI ZQ 4, ZI ZQ es, ZI ZQ em, ZI ZQ ee]
  simpa using this
 obtain ⟨W1, hW1⟩ : ∃ x, (w.alloc (.cells #[ZI ZQ kind, ZI ZQ rt, ZI ZQ rsp, ZI ZQ rsize, ZI ZQ osp, ZI ZQ onum, ZI ZQ osize, .bool oel, .bool ofl, .bool opr, .bool oect, ZI ZQ delay, .slice ra rn rc, .bool marked, ZI ZQ e0, ZI ZQ e1, ZI ZQ e2, .slice ea en ec, ZI ZQ err, ZI ZQ smooth] 93)).alloc (.cells #[ZI ZQ 4, ZI ZQ es, ZI ZQ em, ZI ZQ ee] 46) = x := ⟨_, rfl⟩
 obtain ⟨R, hRr⟩ : ∃ x, w.heap.size = x := ⟨_, rfl⟩
 have HPL := hide (fun W h => rplace_any b base k vL vA vR vP ⟨4, es, em, ee⟩ W h hfn)
 obtain ⟨n, hn⟩ : ∃ x, idxF (atP ⟨4, es, em, ee⟩) k.flying 0 = x := ⟨_, rfl⟩
 rw [hn] at HPL
 have HN := hide hn
 go_enter Try.func80, Try.ntmps80
 go_upto_region 1 with (fail)
 rw [hW1, hRr] at hs0
 try rw [hW1]
 try rw [hRr]
 have HS1 := hide hs0
 have x0 := hs0.ev.cell 0
 have x1 := hs0.ev.cell 1
 have x2 := hs0.ev.cell 2
 have x3 := hs0.ev.cell 3
 simp only [ZG, ZH, ZJ] at x0 x1 x2 x3
 clear hs0 hW1 ha hR hRr hn
 go_wp2_with fail
 with_reducible refine (HPL.out _ HS1.out.kn).mono ?_
 rintro y1 W2 ⟨rfl, hb1⟩
 have hs2 := HS1.out.later hb1
 have HS2 := hide hs2
 clear HS1 x0 x1 x2 x3 hb1 HPL
 have x0 := hs2.ev.cell 0
 have x1 := hs2.ev.cell 1
 have x2 := hs2.ev.cell 2
 have x3 := hs2.ev.cell 3
 have r0 := hs2.row.cell 0
 have r2 := hs2.row.cell 2
 simp only [rwC, ZG, ZH, ZJ] at x0 x1 x2 x3 r0 r2
 clear hs2
 have HTM := hide htm
 have hways : ((kind == 2) = true) ∨ ((kind == 2) = false ∧ (kind == 4) = true) := by
  unfold timedB at htm
  simp only at htm
  cases h2 : (kind == 2)
  ·rw [h2] at htm
   exact .inr ⟨rfl, by simpa using htm⟩
  ·exact .inl rfl
 have hwf : IntKind.i64.wrap (2 * k.c.d) = 2 * k.c.d := IntWalk.i64_in _ ⟨by omega, by omega⟩
 have d5 : decide (ee < 2 * k.c.d) = false := decide_eq_false (by omega)
 have d6 : decide (k.c.most < ee) = false := decide_eq_false (by omega)
 have kb1 := HS2.out.kn.blk.cell 1
 have kb3 := HS2.out.kn.blk.cell 3
 have kb11 := HS2.out.kn.blk.cell 11
 simp only [krC, ZG, ZH, ZJ] at kb1 kb3 kb11
 clear HN htm
 cases d7 : (ee == k.window) with
 | true =>
  have HD7 := hide (show ee = k.window by simpa using d7)
  have HB := hide (HS2.out.bl)
  rcases hways with d2 | ⟨d2, d4⟩
  all_goals
   go_wp2_with fail
   go_quiet (fail)
   go_wp2_with fail
   go_ret
   exact RefPost.err (by rw [← HRES.out]; unfold eventP; rw [if_neg (by show ¬ (4 : Int) = 1; omega), if_neg (by show ¬ (4 : Int) = 2; omega), if_neg (by show ¬ (4 : Int) = 3; omega), if_neg (by show ¬ (4 : Int) = 5; omega), if_pos rfl]; simp [HD7.out]) (HB.out.later (below_drewN (Below.refl _ _) nq) HS2.out.ge)
 | false =>
  have HD7 := hide (show ¬ ee = k.window by simpa using d7)
  rcases hways with d2 | ⟨d2, d4⟩
  all_goals
   go_wp2_with fail
   go_quiet (fail)
   have hs4 := HS2.out.later (below_drewN (Below.refl _ _) nq)
   obtain ⟨W4, hW4⟩ : ∃ x, W2.drewN nq = x := ⟨_, rfl⟩
   rw [hW4] at hs4
   try rw [hW4]
   have HS4 := hide hs4
   clear hW4
   have x3 := hs4.ev.cell 3
   have kb11 := hs4.kn.blk.cell 11
   have f11 := hs4.kn.blk.frozen 11
   simp only [krC, ZG, ZH, ZJ] at x3 kb11
   clear hs4
   go_wp2_with fail
   go_ret
   exact RefPost.ok (by rw [← HRES.out]; unfold eventP; rw [if_neg (by show ¬ (4 : Int) = 1; omega), if_neg (by show ¬ (4 : Int) = 2; omega), if_neg (by show ¬ (4 : Int) = 3; omega), if_neg (by show ¬ (4 : Int) = 5; omega), if_pos rfl, if_pos (by rw [HTM.out, decide_eq_true hlo, decide_eq_true hhi]; simp [HD7.out])]) (HS4.out.kn.put 11 (ZI ZQ ee) { k with window := ee } rfl rfl rfl rfl) (HS4.out.bl.set HS4.out.kn.blk HS4.out.kn.ge _ _)
end Go.Proofs.Ytidfngcclbhoaaa

namespace Go.Proofs.Ytidfngcclbhoaaa
open List renaming getElem?_toArray → ZG, getElem?_cons_zero → ZH, getElem?_cons_succ → ZJ
open Go.Value renaming int → ZI
open Go.IntKind renaming i64 → ZQ
set_option linter.unusedSimpArgs false
set_option linter.unusedVariables false
open Go.RowKit Go.Shelf
set_option maxRecDepth 100000 in
set_option maxHeartbeats 8000000 in
theorem rev_noprobe (b base : Nat) (k : KN) (vL vA vR vP : Value) (r : RW) (rs : List RGJ) (e : EVJ) (w : World) (hK : KrAt w b base k vL vA vR vP) (hR : LieAt rgL 2 w base r.ra rs) (hrn : rs.length = r.rn) (hrl : r.rn ≤ 2000) (hfn : k.flying.length ≤ 2000) (hk : e.kind = 3) (hr4 : r.kind = 4) (hsp : isSp e.sp = false) :
  Calls Try.prog 80 #[.pointer (some ⟨b, 0, none⟩), .agg (rwC r), .agg #[ZI ZQ e.kind, ZI ZQ e.sp, ZI ZQ e.num, ZI ZQ e.n]] w (RefPost b base w (eventP k r rs e)) := by
 obtain ⟨kind, rt, rsp, rsize, ⟨osp, onum, osize, oel, ofl, opr, oect⟩, delay, ra, rn, rc, marked, e0, e1, e2, ea, en, ec, err, smooth⟩ := r
 obtain ⟨ek, es, em, ee⟩ := e
 simp only at hR hrn hrl hk ⊢
 subst hk
 simp only at hr4 hsp
 subst hr4
 obtain ⟨res, hres⟩ : ∃ x, eventP k ⟨4, rt, rsp, rsize, ⟨osp, onum, osize, oel, ofl, opr, oect⟩, delay, ra, rn, rc, marked, e0, e1, e2, ea, en, ec, err, smooth⟩ rs ⟨3, es, em, ee⟩ = x := ⟨_, rfl⟩
 rw [hres]
 have HRES := hide hres
 clear hres
 have hge := hK.ge
 have hbb : base ≤ w.heap.size := Nat.le_of_lt (Nat.lt_of_le_of_lt hK.ge hK.blk.lt)
 unfold rwC
 have ha : Below w.heap.size w ((w.alloc (.cells #[ZI ZQ 4, ZI ZQ rt, ZI ZQ rsp, ZI ZQ rsize, ZI ZQ osp, ZI ZQ onum, ZI ZQ osize, .bool oel, .bool ofl, .bool opr, .bool oect, ZI ZQ delay, .slice ra rn rc, .bool marked, ZI ZQ e0, ZI ZQ e1, ZI ZQ e2, .slice ea en ec, ZI ZQ err, ZI ZQ smooth] 93)).alloc (.cells #[ZI ZQ 3, ZI ZQ es, ZI ZQ em, ZI ZQ ee] 46)) := ((Below.refl _ _).alloc (Nat.le_refl _) _).alloc (by simp) _
 have hs0 : RvSt w ((w.alloc (.cells #[ZI ZQ 4, ZI ZQ rt, ZI ZQ rsp, ZI ZQ rsize, ZI ZQ osp, ZI ZQ onum, ZI ZQ osize, .bool oel, .bool ofl, .bool opr, .bool oect, ZI ZQ delay, .slice ra rn rc, .bool marked, ZI ZQ e0, ZI ZQ e1, ZI ZQ e2, .slice ea en ec, ZI ZQ err, ZI ZQ smooth] 93)).alloc (.cells #[ZI ZQ 3, ZI ZQ es, ZI ZQ em, ZI ZQ ee] 46)) b base k vL vA vR vP w.heap.size (w.heap.size + 1) ⟨4, rt, rsp, rsize, ⟨osp, onum, osize, oel, ofl, opr, oect⟩, delay, ra, rn, rc, marked, e0, e1, e2, ea, en, ec, err, smooth⟩ ⟨3, es, em, ee⟩ rs := by
  refine ⟨hK.later ha, (Blk.new _ _ _).alloc _, ?_, hR.later (ha.mono hbb), FarR.of_below ha hbb⟩
  have := Blk.new (w.alloc (.cells #[ZI ZQ 4, ZI ZQ rt, ZI ZQ rsp, ZI ZQ rsize, ZI ZQ osp, ZI ZQ onum, ZI ZQ osize, .bool oel, .bool ofl, .bool opr, .bool oect, ZI ZQ delay, .slice ra rn rc, .bool marked, ZI ZQ e0, ZI ZQ e1, ZI ZQ e2, .slice ea en ec, ZI ZQ err, ZI ZQ smooth] 93)) 46 #[ZI ZQ 3, ZI ZQ es, ZI ZQ em, ZI ZQ ee]
  simpa using this
 obtain ⟨W1, hW1⟩ : ∃ x, (w.alloc (.cells #[ZI ZQ 4, ZI ZQ rt, ZI ZQ rsp, ZI ZQ rsize, ZI ZQ osp, ZI ZQ onum, ZI ZQ osize, .bool oel, .bool ofl, .bool opr, .bool oect, ZI ZQ delay, .slice ra rn rc, .bool marked, ZI ZQ e0, ZI ZQ e1, ZI ZQ e2, .slice ea en ec, ZI ZQ err, ZI ZQ smooth] 93)).alloc (.cells #[ZI ZQ 3, ZI ZQ es, ZI ZQ em, ZI ZQ ee] 46) = x := ⟨_, rfl⟩
 obtain ⟨R, hRr⟩ : ∃ x, w.heap.size = x := ⟨_, rfl⟩
 have HPL := hide (fun W h => rplace_any b base k vL vA vR vP ⟨3, es, em, ee⟩ W h hfn)
 obtain ⟨n, hn⟩ : ∃ x, idxF (atP ⟨3, es, em, ee⟩) k.flying 0 = x := ⟨_, rfl⟩
 rw [hn] at HPL
 have HN := hide hn
 go_enter Try.func80, Try.ntmps80
 go_upto_region 1 with (fail)
 rw [hW1, hRr] at hs0
 try rw [hW1]
 try rw [hRr]
 have HS1 := hide hs0
 have x0 := hs0.ev.cell 0
 have x1 := hs0.ev.cell 1
 have x2 := hs0.ev.cell 2
 have x3 := hs0.ev.cell 3
 simp only [ZG, ZH, ZJ] at x0 x1 x2 x3
 clear hs0 hW1 ha hR hRr hn
 go_wp2_with fail
 with_reducible refine (HPL.out _ HS1.out.kn).mono ?_
 rintro y1 W2 ⟨rfl, hb1⟩
 have hs2 := HS1.out.later hb1
 have HS2 := hide hs2
 clear HS1 x0 x1 x2 x3 hb1 HPL
 have x0 := hs2.ev.cell 0
 have x1 := hs2.ev.cell 1
 have x2 := hs2.ev.cell 2
 have x3 := hs2.ev.cell 3
 have r0 := hs2.row.cell 0
 have r2 := hs2.row.cell 2
 simp only [rwC, ZG, ZH, ZJ] at x0 x1 x2 x3 r0 r2
 clear hs2
 have HSP := hide (fun W => rspace_any es W)
 rw [hsp] at HSP
 have HSPH := hide hsp
 clear HN hsp
 go_wp2_with fail
 with_reducible refine (HSP.out _).mono ?_
 rintro y3 u3 ⟨rfl, rfl⟩
 go_wp2_with fail
 go_ret
 exact RefPost.err (by rw [← HRES.out]; unfold eventP; rw [if_neg (by show ¬ (3 : Int) = 1; omega), if_neg (by show ¬ (3 : Int) = 2; omega), if_pos rfl]; have := HSPH.out; unfold isSp at this; simp only [this]; rfl) HS2.out.bl
set_option maxRecDepth 100000 in
set_option maxHeartbeats 8000000 in
theorem rev_probe (b base : Nat) (k : KN) (vL vA vR vP : Value) (r : RW) (rs : List RGJ) (e : EVJ) (w : World) (hK : KrAt w b base k vL vA vR vP) (hR : LieAt rgL 2 w base r.ra rs) (hrn : rs.length = r.rn) (hrl : r.rn ≤ 2000) (hfn : k.flying.length ≤ 2000) (hk : e.kind = 3) (hr4 : r.kind = 4) (hsp : e.sp = 0) (hn1 : e.n = 1) :
  Calls Try.prog 80 #[.pointer (some ⟨b, 0, none⟩), .agg (rwC r), .agg #[ZI ZQ e.kind, ZI ZQ e.sp, ZI ZQ e.num, ZI ZQ e.n]] w (RefPost b base w (eventP k r rs e)) := by
 obtain ⟨kind, rt, rsp, rsize, ⟨osp, onum, osize, oel, ofl, opr, oect⟩, delay, ra, rn, rc, marked, e0, e1, e2, ea, en, ec, err, smooth⟩ := r
 obtain ⟨ek, es, em, ee⟩ := e
 simp only at hR hrn hrl hk ⊢
 subst hk
 simp only at hr4 hsp hn1
 subst hr4 hsp hn1
 obtain ⟨res, hres⟩ : ∃ x, eventP k ⟨4, rt, rsp, rsize, ⟨osp, onum, osize, oel, ofl, opr, oect⟩, delay, ra, rn, rc, marked, e0, e1, e2, ea, en, ec, err, smooth⟩ rs ⟨3, 0, em, 1⟩ = x := ⟨_, rfl⟩
 rw [hres]
 have HRES := hide hres
 clear hres
 have hge := hK.ge
 have hbb : base ≤ w.heap.size := Nat.le_of_lt (Nat.lt_of_le_of_lt hK.ge hK.blk.lt)
 unfold rwC
 have ha : Below w.heap.size w ((w.alloc (.cells #[ZI ZQ 4, ZI ZQ rt, ZI ZQ rsp, ZI ZQ rsize, ZI ZQ osp, ZI ZQ onum, ZI ZQ osize, .bool oel, .bool ofl, .bool opr, .bool oect, ZI ZQ delay, .slice ra rn rc, .bool marked, ZI ZQ e0, ZI ZQ e1, ZI ZQ e2, .slice ea en ec, ZI ZQ err, ZI ZQ smooth] 93)).alloc (.cells #[ZI ZQ 3, ZI ZQ 0, ZI ZQ em, ZI ZQ 1] 46)) := ((Below.refl _ _).alloc (Nat.le_refl _) _).alloc (by simp) _
 have hs0 : RvSt w ((w.alloc (.cells #[ZI ZQ 4, ZI ZQ rt, ZI ZQ rsp, ZI ZQ rsize, ZI ZQ osp, ZI ZQ onum, ZI ZQ osize, .bool oel, .bool ofl, .bool opr, .bool oect, ZI ZQ delay, .slice ra rn rc, .bool marked, ZI ZQ e0, ZI ZQ e1, ZI ZQ e2, .slice ea en ec, ZI ZQ err, ZI ZQ smooth] 93)).alloc (.cells #[ZI ZQ 3, ZI ZQ 0, ZI ZQ em, ZI ZQ 1] 46)) b base k vL vA vR vP w.heap.size (w.heap.size + 1) ⟨4, rt, rsp, rsize, ⟨osp, onum, osize, oel, ofl, opr, oect⟩, delay, ra, rn, rc, marked, e0, e1, e2, ea, en, ec, err, smooth⟩ ⟨3, 0, em, 1⟩ rs := by
  refine ⟨hK.later ha, (Blk.new _ _ _).alloc _, ?_, hR.later (ha.mono hbb), FarR.of_below ha hbb⟩
  have := Blk.new (w.alloc (.cells #[ZI ZQ 4, ZI ZQ rt, ZI ZQ rsp, ZI ZQ rsize, ZI ZQ osp, ZI ZQ onum, ZI ZQ osize, .bool oel, .bool ofl, .bool opr, .bool oect, ZI ZQ delay, .slice ra rn rc, .bool marked, ZI ZQ e0, ZI ZQ e1, ZI ZQ e2, .slice ea en ec, ZI ZQ err, ZI ZQ smooth] 93)) 46 #[ZI ZQ 3, ZI ZQ 0, ZI ZQ em, ZI ZQ 1]
  simpa using this
 obtain ⟨W1, hW1⟩ : ∃ x, (w.alloc (.cells #[ZI ZQ 4, ZI ZQ rt, ZI ZQ rsp, ZI ZQ rsize, ZI ZQ osp, ZI ZQ onum, ZI ZQ osize, .bool oel, .bool ofl, .bool opr, .bool oect, ZI ZQ delay, .slice ra rn rc, .bool marked, ZI ZQ e0, ZI ZQ e1, ZI ZQ e2, .slice ea en ec, ZI ZQ err, ZI ZQ smooth] 93)).alloc (.cells #[ZI ZQ 3, ZI ZQ 0, ZI ZQ em, ZI ZQ 1] 46) = x := ⟨_, rfl⟩
 obtain ⟨R, hRr⟩ : ∃ x, w.heap.size = x := ⟨_, rfl⟩
 have HPL := hide (fun W h => rplace_any b base k vL vA vR vP ⟨3, 0, em, 1⟩ W h hfn)
 obtain ⟨n, hn⟩ : ∃ x, idxF (atP ⟨3, 0, em, 1⟩) k.flying 0 = x := ⟨_, rfl⟩
 rw [hn] at HPL
 have HN := hide hn
 go_enter Try.func80, Try.ntmps80
 go_upto_region 1 with (fail)
 rw [hW1, hRr] at hs0
 try rw [hW1]
 try rw [hRr]
 have HS1 := hide hs0
 have x0 := hs0.ev.cell 0
 have x1 := hs0.ev.cell 1
 have x2 := hs0.ev.cell 2
 have x3 := hs0.ev.cell 3
 simp only [ZG, ZH, ZJ] at x0 x1 x2 x3
 clear hs0 hW1 ha hR hRr hn
 go_wp2_with fail
 with_reducible refine (HPL.out _ HS1.out.kn).mono ?_
 rintro y1 W2 ⟨rfl, hb1⟩
 have hs2 := HS1.out.later hb1
 have HS2 := hide hs2
 clear HS1 x0 x1 x2 x3 hb1 HPL
 have x0 := hs2.ev.cell 0
 have x1 := hs2.ev.cell 1
 have x2 := hs2.ev.cell 2
 have x3 := hs2.ev.cell 3
 have r0 := hs2.row.cell 0
 have r2 := hs2.row.cell 2
 simp only [rwC, ZG, ZH, ZJ] at x0 x1 x2 x3 r0 r2
 clear hs2
 have HSP := hide (fun W => rspace_any 0 W)
 rw [show isSp 0 = true from rfl] at HSP
 have kb24 := HS2.out.kn.blk.cell 24
 have kb25 := HS2.out.kn.blk.cell 25
 have kb26 := HS2.out.kn.blk.cell 26
 have f24 := HS2.out.kn.blk.frozen 24
 have f25 := HS2.out.kn.blk.frozen 25
 have f26 := HS2.out.kn.blk.frozen 26
 have hsz2 := HS2.out.kn.blk.lt
 have hsz3 := HS2.out.ev.lt
 have hsz4 := HS2.out.row.lt
 simp only [krC, ZG, ZH, ZJ] at kb24 kb25 kb26
 clear HN
 go_wp2_with fail
 with_reducible refine (HSP.out _).mono ?_
 rintro y3 u3 ⟨rfl, rfl⟩
 go_wp2_with fail
 go_ret
 have p1 := HS2.out.kn.put 24 (ZI ZQ 1) { k with own := fun j => if j = 0 then 1 else k.own j } rfl rfl rfl rfl
 have g1 := HS2.out.bl.set HS2.out.kn.blk HS2.out.kn.ge 24 (ZI ZQ 1)
 have p2 := p1.put 25 (ZI ZQ (k.own 1)) { k with own := fun j => if j = 0 then 1 else k.own j } rfl rfl rfl rfl
 have g2 := g1.set p1.blk p1.ge 25 (ZI ZQ (k.own 1))
 have p3 := p2.put 26 (ZI ZQ (k.own 2)) { k with own := fun j => if j = 0 then 1 else k.own j } rfl rfl rfl rfl
 have g3 := g2.set p2.blk p2.ge 26 (ZI ZQ (k.own 2))
 refine RefPost.ok ?_ (p3.later ((Below.refl _ _).alloc (Nat.le_refl _) _)) (g3.later ((Below.refl _ _).alloc (Nat.le_refl _) _) (Nat.le_of_lt (Nat.lt_of_le_of_lt p3.ge p3.blk.lt)))
 rw [← HRES.out]
 rfl
end Go.Proofs.Ytidfngcclbhoaaa

namespace Go.Proofs.Ytidfngcclbhoaaa
open List renaming getElem?_toArray → ZG, getElem?_cons_zero → ZH, getElem?_cons_succ → ZJ
open Go.Value renaming int → ZI
open Go.IntKind renaming i64 → ZQ
set_option linter.unusedSimpArgs false
set_option linter.unusedVariables false
open Go.RowKit Go.Shelf
set_option maxRecDepth 100000 in
set_option maxHeartbeats 8000000 in
theorem rev_acked (b base : Nat) (k : KN) (vL vA vR vP : Value) (r : RW) (rs : List RGJ) (e : EVJ) (w : World) (hK : KrAt w b base k vL vA vR vP) (hR : LieAt rgL 2 w base r.ra rs) (hrn : rs.length = r.rn) (hrl : r.rn ≤ 2000) (hfn : k.flying.length ≤ 2000) (hk : e.kind = 1) (hr2 : r.kind = 2) (hsp : e.sp = r.sp) (p : PKT) (hp : k.flying = [p]) (hat : idxF (atP e) k.flying 0 = 0) (hany : rs.any (inR e.num) = true) :
  Calls Try.prog 80 #[.pointer (some ⟨b, 0, none⟩), .agg (rwC r), .agg #[ZI ZQ e.kind, ZI ZQ e.sp, ZI ZQ e.num, ZI ZQ e.n]] w (RefPost b base w (eventP k r rs e)) := by
 obtain ⟨kind, rt, es, rsize, ⟨osp, onum, osize, oel, ofl, opr, oect⟩, delay, ra, rn, rc, marked, e0, e1, e2, ea, en, ec, err, smooth⟩ := r
 obtain ⟨ek, es, em, ee⟩ := e
 simp only at hR hrn hrl hk ⊢
 subst hk
 simp only at hr2 hsp hat hany
 subst hr2 hsp
 obtain ⟨res, hres⟩ : ∃ x, eventP k ⟨2, rt, es, rsize, ⟨osp, onum, osize, oel, ofl, opr, oect⟩, delay, ra, rn, rc, marked, e0, e1, e2, ea, en, ec, err, smooth⟩ rs ⟨1, es, em, ee⟩ = x := ⟨_, rfl⟩
 rw [hres]
 have HRES := hide hres
 clear hres
 have hge := hK.ge
 have hbb : base ≤ w.heap.size := Nat.le_of_lt (Nat.lt_of_le_of_lt hK.ge hK.blk.lt)
 unfold rwC
 have ha : Below w.heap.size w ((w.alloc (.cells #[ZI ZQ 2, ZI ZQ rt, ZI ZQ es, ZI ZQ rsize, ZI ZQ osp, ZI ZQ onum, ZI ZQ osize, .bool oel, .bool ofl, .bool opr, .bool oect, ZI ZQ delay, .slice ra rn rc, .bool marked, ZI ZQ e0, ZI ZQ e1, ZI ZQ e2, .slice ea en ec, ZI ZQ err, ZI ZQ smooth] 93)).alloc (.cells #[ZI ZQ 1, ZI ZQ es, ZI ZQ em, ZI ZQ ee] 46)) := ((Below.refl _ _).alloc (Nat.le_refl _) _).alloc (by simp) _
 have hs0 : RvSt w ((w.alloc (.cells #[ZI ZQ 2, ZI ZQ rt, ZI ZQ es, ZI ZQ rsize, ZI ZQ osp, ZI ZQ onum, ZI ZQ osize, .bool oel, .bool ofl, .bool opr, .bool oect, ZI ZQ delay, .slice ra rn rc, .bool marked, ZI ZQ e0, ZI ZQ e1, ZI ZQ e2, .slice ea en ec, ZI ZQ err, ZI ZQ smooth] 93)).alloc (.cells #[ZI ZQ 1, ZI ZQ es, ZI ZQ em, ZI ZQ ee] 46)) b base k vL vA vR vP w.heap.size (w.heap.size + 1) ⟨2, rt, es, rsize, ⟨osp, onum, osize, oel, ofl, opr, oect⟩, delay, ra, rn, rc, marked, e0, e1, e2, ea, en, ec, err, smooth⟩ ⟨1, es, em, ee⟩ rs := by
  refine ⟨hK.later ha, (Blk.new _ _ _).alloc _, ?_, hR.later (ha.mono hbb), FarR.of_below ha hbb⟩
  have := Blk.new (w.alloc (.cells #[ZI ZQ 2, ZI ZQ rt, ZI ZQ es, ZI ZQ rsize, ZI ZQ osp, ZI ZQ onum, ZI ZQ osize, .bool oel, .bool ofl, .bool opr, .bool oect, ZI ZQ delay, .slice ra rn rc, .bool marked, ZI ZQ e0, ZI ZQ e1, ZI ZQ e2, .slice ea en ec, ZI ZQ err, ZI ZQ smooth] 93)) 46 #[ZI ZQ 1, ZI ZQ es, ZI ZQ em, ZI ZQ ee]
  simpa using this
 obtain ⟨W1, hW1⟩ : ∃ x, (w.alloc (.cells #[ZI ZQ 2, ZI ZQ rt, ZI ZQ es, ZI ZQ rsize, ZI ZQ osp, ZI ZQ onum, ZI ZQ osize, .bool oel, .bool ofl, .bool opr, .bool oect, ZI ZQ delay, .slice ra rn rc, .bool marked, ZI ZQ e0, ZI ZQ e1, ZI ZQ e2, .slice ea en ec, ZI ZQ err, ZI ZQ smooth] 93)).alloc (.cells #[ZI ZQ 1, ZI ZQ es, ZI ZQ em, ZI ZQ ee] 46) = x := ⟨_, rfl⟩
 obtain ⟨R, hRr⟩ : ∃ x, w.heap.size = x := ⟨_, rfl⟩
 have HPL := hide (fun W h => rplace_any b base k vL vA vR vP ⟨1, es, em, ee⟩ W h hfn)
 obtain ⟨n, hn⟩ : ∃ x, idxF (atP ⟨1, es, em, ee⟩) k.flying 0 = x := ⟨_, rfl⟩
 rw [hat] at hn
 subst hn
 rw [hat] at HPL
 have HN := hide hat
 go_enter Try.func80, Try.ntmps80
 go_upto_region 1 with (fail)
 rw [hW1, hRr] at hs0
 try rw [hW1]
 try rw [hRr]
 have HS1 := hide hs0
 have x0 := hs0.ev.cell 0
 have x1 := hs0.ev.cell 1
 have x2 := hs0.ev.cell 2
 have x3 := hs0.ev.cell 3
 simp only [ZG, ZH, ZJ] at x0 x1 x2 x3
 clear hs0 hW1 ha hR hRr hat
 go_wp2_with fail
 with_reducible refine (HPL.out _ HS1.out.kn).mono ?_
 rintro y1 W2 ⟨rfl, hb1⟩
 have hs2 := HS1.out.later hb1
 have HS2 := hide hs2
 clear HS1 x0 x1 x2 x3 hb1 HPL
 have x0 := hs2.ev.cell 0
 have x1 := hs2.ev.cell 1
 have x2 := hs2.ev.cell 2
 have x3 := hs2.ev.cell 3
 have r0 := hs2.row.cell 0
 have r2 := hs2.row.cell 2
 have r11 := hs2.row.cell 11
 have r12 := hs2.row.cell 12
 have r13 := hs2.row.cell 13
 have r14 := hs2.row.cell 14
 have r15 := hs2.row.cell 15
 have r16 := hs2.row.cell 16
 simp only [rwC, ZG, ZH, ZJ] at x0 x1 x2 x3 r0 r2 r11 r12 r13 r14 r15 r16
 clear hs2
 have hbb2 : base ≤ W2.heap.size := Nat.le_of_lt (Nat.lt_of_le_of_lt HS2.out.kn.ge HS2.out.kn.blk.lt)
 have HHA := hide (fun W h h2 => rhas_any ra rn rc delay e0 e1 e2 marked rs em base W h h2 hrn hrl)
 rw [hany] at HHA
 have HANY := hide hany
 have HGO := hide (fun W h => rgone_one b base k vL vA vR vP p W h hp)
 clear hany
 go_wp2_with fail
 with_reducible refine (HHA.out _ HS2.out.rg hbb2).mono ?_
 rintro y3 W3 ⟨rfl, hb3⟩
 have hs3 := HS2.out.later hb3
 have HS3 := hide hs3
 clear hb3 HHA HS2 x0 x1 x2 x3 r0 r2 r11 r12 r13 r14 r15 r16 hs3
 go_wp2_with fail
 with_reducible refine (HGO.out _ HS3.out.kn).mono ?_
 rintro y4 W4 ⟨rfl, hk4, hf4⟩
 have HK4 := hide hk4
 have HF4 := hide hf4
 clear hk4 hf4
 go_wp2_with fail
 go_ret
 exact RefPost.ok (by rw [← HRES.out]; unfold eventP; rw [if_pos rfl]; simp [HN.out, HANY.out]) HK4.out (HS3.out.bl.trans HF4.out)
end Go.Proofs.Ytidfngcclbhoaaa
