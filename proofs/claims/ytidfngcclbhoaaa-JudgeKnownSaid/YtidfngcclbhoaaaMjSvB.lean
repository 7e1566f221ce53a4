/-
 Sends of the program: low, probes: 3 texts in one (JgSvD, JgSvE, JgSvF).
-/
import Derived.Test.YtidfngcclbhoaaaJgSendsA
import Derived.StillTail
import Derived.Test.YtidfngcclbhoaaaMjSvA
import Derived.Deep.RegionHeld3
namespace Go.Proofs.Ytidfngcclbhoaaa
open List renaming setIfInBounds_toArray → ZD, set_cons_zero → ZE, set_cons_succ → ZF, getElem?_toArray → ZG, getElem?_cons_zero → ZH, getElem?_cons_succ → ZJ
open Go.AllReadyH renaming cons → ZS, nil → ZN
open Go.Act renaming put → ZP
open Go.Value renaming int → ZI
open Go.IntKind renaming i64 → ZQ
set_option linter.unusedSimpArgs false
set_option linter.unusedVariables false
open Go.RowKit Go.Shelf
set_option maxRecDepth 100000 in
set_option maxHeartbeats 8000000 in
theorem sends_lows (b base : Nat) (k : KN) (vf vp vd : Value) (r : RW) (w : World) (hK : KnAt w b base k vf vp vd) (hpi : ∀ p ∈ k.pieces, okPie p) (hl : k.pieces.length ≤ 2000) (hpd : ∀ p ∈ k.paced, okPcd p) (hll : k.paced.length ≤ 1900) (hfl : ∀ p ∈ k.flying, okP p) (hfn : k.flying.length ≤ 1900)
  (he : r.en = 0) (hsp : r.o.sp = 0) (hnum : 0 ≤ r.o.num ∧ r.o.num ≤ 9007199254740991) (hsz : 1 ≤ r.o.size ∧ r.o.size ≤ k.c.d) (hd : k.c.d ≤ 65527) (ht : 0 ≤ r.t ∧ r.t ≤ 68719476736)
  (hlast : r.o.num ≤ k.last 0) :
  Calls Try.prog 27 #[.pointer (some ⟨b, 0, none⟩), .agg (rwC r)] w (StepPost b base w (.error 4)) := by
 obtain ⟨kind, rt, rsp, rsize, ⟨osp, onum, osize, oel, ofl, opr, oect⟩, delay, ra, rn, rc, marked, e0, e1, e2, ea, en, ec, err, smooth⟩ := r
 simp only at he hsp hnum hsz ht hlast ⊢
 subst he hsp
 have HK := hide hK
 have q1 := hK.blk.cell 1
 have q5 := hK.blk.cell 11
 have hkl := hK.blk.lt
 simp only [knC, ZG, ZH, ZJ] at q1 q5
 have HY := hide (fun rule W => unless_yes rule W)
 have HN := hide (fun rule W => unless_no rule W)
 have HSP := hide (fun W => isspace_any 0 W)
 have HIS := hide (fun W => jis_any onum W)
 rw [show (decide (0 ≤ onum) && decide (onum ≤ 9007199254740991)) = true by simp [hnum.1, hnum.2]] at HIS
 rw [show (decide ((0 : Int) ≤ 0) && decide ((0 : Int) < 3)) = true from rfl] at HSP
 obtain ⟨z0, z1⟩ := hsz
 go_enter Try.func27, Try.ntmps27
 unfold rwC
 go_wp2_with fail
 have hs0 : SnSt w ((w.alloc (.cells #[ZI ZQ kind, ZI ZQ rt, ZI ZQ rsp, ZI ZQ rsize, ZI ZQ 0, ZI ZQ onum, ZI ZQ osize, .bool oel, .bool ofl, .bool opr, .bool oect, ZI ZQ delay, .slice ra rn rc, .bool marked, ZI ZQ e0, ZI ZQ e1, ZI ZQ e2, .slice ea 0 ec, ZI ZQ err, ZI ZQ smooth] 36)).alloc (.cells #[ZI ZQ 0, ZI ZQ onum, ZI ZQ osize, .bool oel, .bool ofl, .bool opr, .bool oect] 28)) b base k vf vp vd w.heap.size (w.heap.size + 1) #[ZI ZQ kind, ZI ZQ rt, ZI ZQ rsp, ZI ZQ rsize, ZI ZQ 0, ZI ZQ onum, ZI ZQ osize, .bool oel, .bool ofl, .bool opr, .bool oect, ZI ZQ delay, .slice ra rn rc, .bool marked, ZI ZQ e0, ZI ZQ e1, ZI ZQ e2, .slice ea 0 ec, ZI ZQ err, ZI ZQ smooth] ⟨0, onum, osize, oel, ofl, opr, oect⟩ := by
  have ha : Below w.heap.size w ((w.alloc (.cells #[ZI ZQ kind, ZI ZQ rt, ZI ZQ rsp, ZI ZQ rsize, ZI ZQ 0, ZI ZQ onum, ZI ZQ osize, .bool oel, .bool ofl, .bool opr, .bool oect, ZI ZQ delay, .slice ra rn rc, .bool marked, ZI ZQ e0, ZI ZQ e1, ZI ZQ e2, .slice ea 0 ec, ZI ZQ err, ZI ZQ smooth] 36)).alloc (.cells #[ZI ZQ 0, ZI ZQ onum, ZI ZQ osize, .bool oel, .bool ofl, .bool opr, .bool oect] 28)) := ((Below.refl _ _).alloc (Nat.le_refl _) _).alloc (by simp) _
  refine ⟨HK.out.later ha, (Blk.new _ _ _).alloc _, ?_, Far.of_below ha (Nat.le_of_lt (Nat.lt_of_le_of_lt HK.out.ge hkl))⟩
  have := Blk.new (w.alloc (.cells #[ZI ZQ kind, ZI ZQ rt, ZI ZQ rsp, ZI ZQ rsize, ZI ZQ 0, ZI ZQ onum, ZI ZQ osize, .bool oel, .bool ofl, .bool opr, .bool oect, ZI ZQ delay, .slice ra rn rc, .bool marked, ZI ZQ e0, ZI ZQ e1, ZI ZQ e2, .slice ea 0 ec, ZI ZQ err, ZI ZQ smooth] 36)) 28 #[ZI ZQ 0, ZI ZQ onum, ZI ZQ osize, .bool oel, .bool ofl, .bool opr, .bool oect]
  simpa [outL] using this
 obtain ⟨W1, hW1⟩ : ∃ x, (w.alloc (.cells #[ZI ZQ kind, ZI ZQ rt, ZI ZQ rsp, ZI ZQ rsize, ZI ZQ 0, ZI ZQ onum, ZI ZQ osize, .bool oel, .bool ofl, .bool opr, .bool oect, ZI ZQ delay, .slice ra rn rc, .bool marked, ZI ZQ e0, ZI ZQ e1, ZI ZQ e2, .slice ea 0 ec, ZI ZQ err, ZI ZQ smooth] 36)).alloc (.cells #[ZI ZQ 0, ZI ZQ onum, ZI ZQ osize, .bool oel, .bool ofl, .bool opr, .bool oect] 28) = x := ⟨_, rfl⟩
 obtain ⟨R, hR⟩ : ∃ x, w.heap.size = x := ⟨_, rfl⟩
 rw [hW1, hR] at hs0
 rw [hW1, hR]
 have HS1 := hide hs0
 have k1 := hs0.kn.blk.cell 1
 have r17 := hs0.row.cell 17
 have o0 := hs0.out.cell 0
 have o1 := hs0.out.cell 1
 have o2 := hs0.out.cell 2
 simp only [knC, outL, ZG, ZH, ZJ] at k1 r17 o0 o1 o2
 clear hs0 hW1 hR q1 q5 hK hkl
 go_quiet (first | (go_at_call 53; with_reducible exact quiet24 (HSP.out _)) | (go_at_call 25; with_reducible exact quiet24 (HIS.out _)) | (go_at_call 23; with_reducible exact quiet24 (HY.out _ _)))
 have hs1 := HS1.out.drewN nq
 obtain ⟨W2, hW2⟩ : ∃ x, W1.drewN nq = x := ⟨_, rfl⟩
 rw [hW2] at hs1
 try rw [hW2]
 have HS2 := hide hs1
 clear k1 r17 o0 o1 o2 hW2 hs1 HS1
 have k17 := HS2.out.kn.blk.cell 17
 have o0 := HS2.out.out.cell 0
 have o1 := HS2.out.out.cell 1
 simp only [knC, outL, ZG, ZH, ZJ] at k17 o0 o1
 go_wp2_with fail
 have HNN := hide (fun W => unless_no 4 W)
 refine wp_region_still_tail 10 (by kernel_rfl) (by kernel_rfl) ?_
 simp only [List.take_succ_cons, List.take_zero, List.drop_succ_cons, List.drop_zero]
 change wpStill _ _ W2.drew _ _ _
 have o0 := (World.cell?_drew W2 ⟨R + 1, 0, none⟩).trans o0
 have o1 := (World.cell?_drew W2 ⟨R + 1, 1, none⟩).trans o1
 have k17 := (World.cell?_drew W2 ⟨b, 17, none⟩).trans k17
 repeat (refine wpStill_step (fun K hK => ?_); go_simp; with_reducible refine hK _ ?_; clear hK K)
 refine wpStill_nil ?_
 change wpList _ _ _ _ _ W2.drew
 go_wp2_with fail
 rw [show decide (k.last 0 < onum) = false from decide_eq_false (by omega)]
 with_reducible refine (HNN.out _).mono ?_
 rintro y2 u2 ⟨rfl, rfl⟩
 exact ⟨rfl, StepPost.err rfl HS2.out.drew.bl⟩
end Go.Proofs.Ytidfngcclbhoaaa

namespace Go.Proofs.Ytidfngcclbhoaaa
open List renaming setIfInBounds_toArray → ZD, set_cons_zero → ZE, set_cons_succ → ZF, getElem?_toArray → ZG, getElem?_cons_zero → ZH, getElem?_cons_succ → ZJ
open Go.AllReadyH renaming cons → ZS, nil → ZN
open Go.Act renaming put → ZP
open Go.Value renaming int → ZI
open Go.IntKind renaming i64 → ZQ
set_option linter.unusedSimpArgs false
set_option linter.unusedVariables false
open Go.RowKit Go.Shelf
set_option maxRecDepth 100000 in
set_option maxHeartbeats 8000000 in
theorem sends_noprobe (b base : Nat) (k : KN) (vf vp vd : Value) (r : RW) (w : World) (hK : KnAt w b base k vf vp vd) (hpi : ∀ p ∈ k.pieces, okPie p) (hl : k.pieces.length ≤ 2000) (hpd : ∀ p ∈ k.paced, okPcd p) (hll : k.paced.length ≤ 1900) (hfl : ∀ p ∈ k.flying, okP p) (hfn : k.flying.length ≤ 1900)
  (he : r.en = 0) (hsp : r.o.sp = 0) (hnum : 0 ≤ r.o.num ∧ r.o.num ≤ 9007199254740991) (hsz : 1 ≤ r.o.size ∧ r.o.size ≤ k.c.d) (hd : k.c.d ≤ 65527) (hpl : r.o.fl = true) (hpr : r.o.pr = true) (ht : 0 ≤ r.t ∧ r.t ≤ 68719476736)
  (hlast : k.last 0 < r.o.num) (hown : k.own 0 ≤ 0) :
  Calls Try.prog 27 #[.pointer (some ⟨b, 0, none⟩), .agg (rwC r)] w (StepPost b base w (.error 6)) := by
 obtain ⟨kind, rt, rsp, rsize, ⟨osp, onum, osize, oel, ofl, opr, oect⟩, delay, ra, rn, rc, marked, e0, e1, e2, ea, en, ec, err, smooth⟩ := r
 simp only at he hsp hnum hsz hpl hpr ht hlast ⊢
 subst he hsp hpl hpr
 have HK := hide hK
 have q1 := hK.blk.cell 1
 have q5 := hK.blk.cell 11
 have hkl := hK.blk.lt
 simp only [knC, ZG, ZH, ZJ] at q1 q5
 have HY := hide (fun rule W => unless_yes rule W)
 have HN := hide (fun rule W => unless_no rule W)
 have HSP := hide (fun W => isspace_any 0 W)
 have HIS := hide (fun W => jis_any onum W)
 rw [show (decide (0 ≤ onum) && decide (onum ≤ 9007199254740991)) = true by simp [hnum.1, hnum.2]] at HIS
 rw [show (decide ((0 : Int) ≤ 0) && decide ((0 : Int) < 3)) = true from rfl] at HSP
 obtain ⟨z0, z1⟩ := hsz
 go_enter Try.func27, Try.ntmps27
 unfold rwC
 go_wp2_with fail
 have hs0 : SnSt w ((w.alloc (.cells #[ZI ZQ kind, ZI ZQ rt, ZI ZQ rsp, ZI ZQ rsize, ZI ZQ 0, ZI ZQ onum, ZI ZQ osize, .bool oel, .bool true, .bool true, .bool oect, ZI ZQ delay, .slice ra rn rc, .bool marked, ZI ZQ e0, ZI ZQ e1, ZI ZQ e2, .slice ea 0 ec, ZI ZQ err, ZI ZQ smooth] 36)).alloc (.cells #[ZI ZQ 0, ZI ZQ onum, ZI ZQ osize, .bool oel, .bool true, .bool true, .bool oect] 28)) b base k vf vp vd w.heap.size (w.heap.size + 1) #[ZI ZQ kind, ZI ZQ rt, ZI ZQ rsp, ZI ZQ rsize, ZI ZQ 0, ZI ZQ onum, ZI ZQ osize, .bool oel, .bool true, .bool true, .bool oect, ZI ZQ delay, .slice ra rn rc, .bool marked, ZI ZQ e0, ZI ZQ e1, ZI ZQ e2, .slice ea 0 ec, ZI ZQ err, ZI ZQ smooth] ⟨0, onum, osize, oel, true, true, oect⟩ := by
  have ha : Below w.heap.size w ((w.alloc (.cells #[ZI ZQ kind, ZI ZQ rt, ZI ZQ rsp, ZI ZQ rsize, ZI ZQ 0, ZI ZQ onum, ZI ZQ osize, .bool oel, .bool true, .bool true, .bool oect, ZI ZQ delay, .slice ra rn rc, .bool marked, ZI ZQ e0, ZI ZQ e1, ZI ZQ e2, .slice ea 0 ec, ZI ZQ err, ZI ZQ smooth] 36)).alloc (.cells #[ZI ZQ 0, ZI ZQ onum, ZI ZQ osize, .bool oel, .bool true, .bool true, .bool oect] 28)) := ((Below.refl _ _).alloc (Nat.le_refl _) _).alloc (by simp) _
  refine ⟨HK.out.later ha, (Blk.new _ _ _).alloc _, ?_, Far.of_below ha (Nat.le_of_lt (Nat.lt_of_le_of_lt HK.out.ge hkl))⟩
  have := Blk.new (w.alloc (.cells #[ZI ZQ kind, ZI ZQ rt, ZI ZQ rsp, ZI ZQ rsize, ZI ZQ 0, ZI ZQ onum, ZI ZQ osize, .bool oel, .bool true, .bool true, .bool oect, ZI ZQ delay, .slice ra rn rc, .bool marked, ZI ZQ e0, ZI ZQ e1, ZI ZQ e2, .slice ea 0 ec, ZI ZQ err, ZI ZQ smooth] 36)) 28 #[ZI ZQ 0, ZI ZQ onum, ZI ZQ osize, .bool oel, .bool true, .bool true, .bool oect]
  simpa [outL] using this
 obtain ⟨W1, hW1⟩ : ∃ x, (w.alloc (.cells #[ZI ZQ kind, ZI ZQ rt, ZI ZQ rsp, ZI ZQ rsize, ZI ZQ 0, ZI ZQ onum, ZI ZQ osize, .bool oel, .bool true, .bool true, .bool oect, ZI ZQ delay, .slice ra rn rc, .bool marked, ZI ZQ e0, ZI ZQ e1, ZI ZQ e2, .slice ea 0 ec, ZI ZQ err, ZI ZQ smooth] 36)).alloc (.cells #[ZI ZQ 0, ZI ZQ onum, ZI ZQ osize, .bool oel, .bool true, .bool true, .bool oect] 28) = x := ⟨_, rfl⟩
 obtain ⟨R, hR⟩ : ∃ x, w.heap.size = x := ⟨_, rfl⟩
 rw [hW1, hR] at hs0
 rw [hW1, hR]
 have HS1 := hide hs0
 have k1 := hs0.kn.blk.cell 1
 have r17 := hs0.row.cell 17
 have o0 := hs0.out.cell 0
 have o1 := hs0.out.cell 1
 have o2 := hs0.out.cell 2
 simp only [knC, outL, ZG, ZH, ZJ] at k1 r17 o0 o1 o2
 clear hs0 hW1 hR q1 q5 hK hkl
 go_quiet (first | (go_at_call 53; with_reducible exact quiet24 (HSP.out _)) | (go_at_call 25; with_reducible exact quiet24 (HIS.out _)) | (go_at_call 23; with_reducible exact quiet24 (HY.out _ _)))
 have hs1 := HS1.out.drewN nq
 obtain ⟨W2, hW2⟩ : ∃ x, W1.drewN nq = x := ⟨_, rfl⟩
 rw [hW2] at hs1
 try rw [hW2]
 have HS2 := hide hs1
 clear k1 r17 o0 o1 o2 hW2 hs1 HS1
 have k17 := HS2.out.kn.blk.cell 17
 have o0 := HS2.out.out.cell 0
 have o1 := HS2.out.out.cell 1
 simp only [knC, outL, ZG, ZH, ZJ] at k17 o0 o1
 go_wp2_with fail
 go_quiet (first | (go_at_call 23; with_reducible exact quiet24 (HY.out _ _)))
 have hs2 := HS2.out.drewN nq
 obtain ⟨W3, hW3⟩ : ∃ x, W2.drewN nq = x := ⟨_, rfl⟩
 rw [hW3] at hs2
 try rw [hW3]
 have HS3 := hide hs2
 clear k17 o0 o1 hW3 hs2 HS2
 have o2 := HS3.out.out.cell 2
 have o4 := HS3.out.out.cell 4
 have o5 := HS3.out.out.cell 5
 simp only [outL, ZG, ZH, ZJ] at o2 o4 o5
 go_wp2_with fail
 go_quiet (first | (go_at_call 23; with_reducible exact quiet24 (HY.out _ _)))
 have hs := HS3.out.drewN nq
 obtain ⟨W4, hW4⟩ : ∃ x, W3.drewN nq = x := ⟨_, rfl⟩
 rw [hW4] at hs
 try rw [hW4]
 have HS4 := hide hs
 clear hs hW4 HS3 o2 o4 o5
 have o5 := HS4.out.out.cell 5
 have o0 := HS4.out.out.cell 0
 have k23 := HS4.out.kn.blk.cell 23
 simp only [knC, outL, ZG, ZH, ZJ] at o5 o0 k23
 go_wp2_with fail
 refine wp_region_still_tail 13 (by kernel_rfl) (by kernel_rfl) ?_
 simp only [List.take_succ_cons, List.take_zero, List.drop_succ_cons, List.drop_zero]
 change wpStill _ _ W4.drew _ _ _
 have o5 := (World.cell?_drew W4 ⟨R + 1, 5, none⟩).trans o5
 have o0 := (World.cell?_drew W4 ⟨R + 1, 0, none⟩).trans o0
 have k23 := (World.cell?_drew W4 ⟨b, 23, none⟩).trans k23
 repeat (refine wpStill_step (fun K hK => ?_); go_simp; with_reducible refine hK _ ?_; clear hK K)
 refine wpStill_nil ?_
 change wpList _ _ _ _ _ W4.drew
 go_wp2_with fail
 try rw [show decide (0 < k.own 0) = false from decide_eq_false (by omega)]
 with_reducible refine (HN.out _ _).mono ?_
 rintro y2 u2 ⟨rfl, rfl⟩
 exact ⟨rfl, StepPost.err rfl HS4.out.drew.bl⟩
end Go.Proofs.Ytidfngcclbhoaaa

namespace Go.Proofs.Ytidfngcclbhoaaa
open List renaming setIfInBounds_toArray → ZD, set_cons_zero → ZE, set_cons_succ → ZF, getElem?_toArray → ZG, getElem?_cons_zero → ZH, getElem?_cons_succ → ZJ
open Go.AllReadyH renaming cons → ZS, nil → ZN
open Go.Act renaming put → ZP
open Go.Value renaming int → ZI
open Go.IntKind renaming i64 → ZQ
set_option linter.unusedSimpArgs false
set_option linter.unusedVariables false
open Go.RowKit Go.Shelf
/-- What a probe leaves. -/
def probeK (k : KN) (o : OUT) (t : Int) : KN := { k with flying := k.flying ++ [(⟨o, t⟩ : PKT)], last := fun j => if j = 0 then o.num else k.last j, sent := addI k.sent o.size, own := fun j => if j = 0 then k.own 0 - 1 else k.own j }
set_option maxRecDepth 100000 in
set_option maxHeartbeats 8000000 in
theorem sends_probe (b base : Nat) (k : KN) (vf vp vd : Value) (r : RW) (w : World) (hK : KnAt w b base k vf vp vd) (hpi : ∀ p ∈ k.pieces, okPie p) (hl : k.pieces.length ≤ 2000) (hpd : ∀ p ∈ k.paced, okPcd p) (hll : k.paced.length ≤ 1900) (hfl : ∀ p ∈ k.flying, okP p) (hfn : k.flying.length ≤ 1900)
  (he : r.en = 0) (hsp : r.o.sp = 0) (hnum : 0 ≤ r.o.num ∧ r.o.num ≤ 9007199254740991) (hsz : 1 ≤ r.o.size ∧ r.o.size ≤ k.c.d) (hd : k.c.d ≤ 65527) (hpl : r.o.fl = true) (hpr : r.o.pr = true) (hv : k.valid = true) (ht : 0 ≤ r.t ∧ r.t ≤ 68719476736)
  (hlast : k.last 0 < r.o.num) (hown : 0 < k.own 0 ∧ k.own 0 ≤ 9) :
  Calls Try.prog 27 #[.pointer (some ⟨b, 0, none⟩), .agg (rwC r)] w (StepPost b base w (.ok (probeK k r.o r.t))) := by
 obtain ⟨kind, rt, rsp, rsize, ⟨osp, onum, osize, oel, ofl, opr, oect⟩, delay, ra, rn, rc, marked, e0, e1, e2, ea, en, ec, err, smooth⟩ := r
 simp only at he hsp hnum hsz hpl hpr ht hlast ⊢
 subst he hsp hpl hpr
 have HK := hide hK
 have q1 := hK.blk.cell 1
 have q5 := hK.blk.cell 11
 have hkl := hK.blk.lt
 simp only [knC, ZG, ZH, ZJ] at q1 q5
 have HY := hide (fun rule W => unless_yes rule W)
 have HN := hide (fun rule W => unless_no rule W)
 have HSP := hide (fun W => isspace_any 0 W)
 have HIS := hide (fun W => jis_any onum W)
 rw [show (decide (0 ≤ onum) && decide (onum ≤ 9007199254740991)) = true by simp [hnum.1, hnum.2]] at HIS
 rw [show (decide ((0 : Int) ≤ 0) && decide ((0 : Int) < 3)) = true from rfl] at HSP
 obtain ⟨z0, z1⟩ := hsz
 go_enter Try.func27, Try.ntmps27
 unfold rwC
 go_wp2_with fail
 have hs0 : SnSt w ((w.alloc (.cells #[ZI ZQ kind, ZI ZQ rt, ZI ZQ rsp, ZI ZQ rsize, ZI ZQ 0, ZI ZQ onum, ZI ZQ osize, .bool oel, .bool true, .bool true, .bool oect, ZI ZQ delay, .slice ra rn rc, .bool marked, ZI ZQ e0, ZI ZQ e1, ZI ZQ e2, .slice ea 0 ec, ZI ZQ err, ZI ZQ smooth] 36)).alloc (.cells #[ZI ZQ 0, ZI ZQ onum, ZI ZQ osize, .bool oel, .bool true, .bool true, .bool oect] 28)) b base k vf vp vd w.heap.size (w.heap.size + 1) #[ZI ZQ kind, ZI ZQ rt, ZI ZQ rsp, ZI ZQ rsize, ZI ZQ 0, ZI ZQ onum, ZI ZQ osize, .bool oel, .bool true, .bool true, .bool oect, ZI ZQ delay, .slice ra rn rc, .bool marked, ZI ZQ e0, ZI ZQ e1, ZI ZQ e2, .slice ea 0 ec, ZI ZQ err, ZI ZQ smooth] ⟨0, onum, osize, oel, true, true, oect⟩ := by
  have ha : Below w.heap.size w ((w.alloc (.cells #[ZI ZQ kind, ZI ZQ rt, ZI ZQ rsp, ZI ZQ rsize, ZI ZQ 0, ZI ZQ onum, ZI ZQ osize, .bool oel, .bool true, .bool true, .bool oect, ZI ZQ delay, .slice ra rn rc, .bool marked, ZI ZQ e0, ZI ZQ e1, ZI ZQ e2, .slice ea 0 ec, ZI ZQ err, ZI ZQ smooth] 36)).alloc (.cells #[ZI ZQ 0, ZI ZQ onum, ZI ZQ osize, .bool oel, .bool true, .bool true, .bool oect] 28)) := ((Below.refl _ _).alloc (Nat.le_refl _) _).alloc (by simp) _
  refine ⟨HK.out.later ha, (Blk.new _ _ _).alloc _, ?_, Far.of_below ha (Nat.le_of_lt (Nat.lt_of_le_of_lt HK.out.ge hkl))⟩
  have := Blk.new (w.alloc (.cells #[ZI ZQ kind, ZI ZQ rt, ZI ZQ rsp, ZI ZQ rsize, ZI ZQ 0, ZI ZQ onum, ZI ZQ osize, .bool oel, .bool true, .bool true, .bool oect, ZI ZQ delay, .slice ra rn rc, .bool marked, ZI ZQ e0, ZI ZQ e1, ZI ZQ e2, .slice ea 0 ec, ZI ZQ err, ZI ZQ smooth] 36)) 28 #[ZI ZQ 0, ZI ZQ onum, ZI ZQ osize, .bool oel, .bool true, .bool true, .bool oect]
  simpa [outL] using this
 obtain ⟨W1, hW1⟩ : ∃ x, (w.alloc (.cells #[ZI ZQ kind, ZI ZQ rt, ZI ZQ rsp, ZI ZQ rsize, ZI ZQ 0, ZI ZQ onum, ZI ZQ osize, .bool oel, .bool true, .bool true, .bool oect, ZI ZQ delay, .slice ra rn rc, .bool marked, ZI ZQ e0, ZI ZQ e1, ZI ZQ e2, .slice ea 0 ec, ZI ZQ err, ZI ZQ smooth] 36)).alloc (.cells #[ZI ZQ 0, ZI ZQ onum, ZI ZQ osize, .bool oel, .bool true, .bool true, .bool oect] 28) = x := ⟨_, rfl⟩
 obtain ⟨R, hR⟩ : ∃ x, w.heap.size = x := ⟨_, rfl⟩
 rw [hW1, hR] at hs0
 rw [hW1, hR]
 have HS1 := hide hs0
 have k1 := hs0.kn.blk.cell 1
 have r17 := hs0.row.cell 17
 have o0 := hs0.out.cell 0
 have o1 := hs0.out.cell 1
 have o2 := hs0.out.cell 2
 simp only [knC, outL, ZG, ZH, ZJ] at k1 r17 o0 o1 o2
 clear hs0 hW1 hR q1 q5 hK hkl
 go_quiet (first | (go_at_call 53; with_reducible exact quiet24 (HSP.out _)) | (go_at_call 25; with_reducible exact quiet24 (HIS.out _)) | (go_at_call 23; with_reducible exact quiet24 (HY.out _ _)))
 have hs1 := HS1.out.drewN nq
 obtain ⟨W2, hW2⟩ : ∃ x, W1.drewN nq = x := ⟨_, rfl⟩
 rw [hW2] at hs1
 try rw [hW2]
 have HS2 := hide hs1
 clear k1 r17 o0 o1 o2 hW2 hs1 HS1
 have k17 := HS2.out.kn.blk.cell 17
 have o0 := HS2.out.out.cell 0
 have o1 := HS2.out.out.cell 1
 simp only [knC, outL, ZG, ZH, ZJ] at k17 o0 o1
 go_wp2_with fail
 go_quiet (first | (go_at_call 23; with_reducible exact quiet24 (HY.out _ _)))
 have hs2 := HS2.out.drewN nq
 obtain ⟨W3, hW3⟩ : ∃ x, W2.drewN nq = x := ⟨_, rfl⟩
 rw [hW3] at hs2
 try rw [hW3]
 have HS3 := hide hs2
 clear k17 o0 o1 hW3 hs2 HS2
 have o2 := HS3.out.out.cell 2
 have o4 := HS3.out.out.cell 4
 have o5 := HS3.out.out.cell 5
 simp only [outL, ZG, ZH, ZJ] at o2 o4 o5
 go_wp2_with fail
 go_quiet (first | (go_at_call 23; with_reducible exact quiet24 (HY.out _ _)))
 have hs := HS3.out.drewN nq
 obtain ⟨W4, hW4⟩ : ∃ x, W3.drewN nq = x := ⟨_, rfl⟩
 rw [hW4] at hs
 try rw [hW4]
 have HS4 := hide hs
 clear hs hW4 HS3 o2 o4 o5
 have o5 := HS4.out.out.cell 5
 have o0 := HS4.out.out.cell 0
 have k23 := HS4.out.kn.blk.cell 23
 simp only [knC, outL, ZG, ZH, ZJ] at o5 o0 k23
 go_wp2_with fail
 go_quiet (first | (go_at_call 23; with_reducible exact quiet24 (HY.out _ _)))
 have hs4 := HS4.out.drewN nq
 obtain ⟨W5, hW5⟩ : ∃ x, W4.drewN nq = x := ⟨_, rfl⟩
 rw [hW5] at hs4
 try rw [hW5]
 have HS5 := hide hs4
 clear o5 o0 k23 hW5 hs4 HS4
 have k14 := HS5.out.kn.blk.cell 14
 simp only [knC, outL, ZG, ZH, ZJ] at k14
 rw [hv] at k14
 go_wp2_with fail
 go_quiet (first | (go_at_call 23; with_reducible exact quiet24 (HY.out _ _)))
 have hs5 := HS5.out.drewN nq
 obtain ⟨W6, hW6⟩ : ∃ x, W5.drewN nq = x := ⟨_, rfl⟩
 rw [hW6] at hs5
 try rw [hW6]
 have HS6 := hide hs5
 clear k14 hW6 hs5 HS5
 have hs := HS6.out
 obtain ⟨wc, hwc⟩ : ∃ x, W6 = x := ⟨_, rfl⟩
 rw [hwc] at hs
 rw [hwc]
 clear hwc HS6
 obtain ⟨i0, hi0, hz0, hz1, hz2⟩ := info_parts pkt_info
 obtain ⟨A8, c8, rfl⟩ := own_sl hs.kn.fl
 have ho := hs.kn.fl
 obtain ⟨M, hM⟩ : ∃ x, k.flying.length = x := ⟨_, rfl⟩
 rw [hM] at ho
 obtain ⟨xs, hxs⟩ : ∃ x, k.flying.flatMap pktL = x := ⟨_, rfl⟩
 rw [hxs] at ho
 have hMl : M ≤ 1900 := by omega
 have k16 := hs.kn.blk.cell 16
 have f16 := hs.kn.blk.frozen 16
 have hsz11 := hs.bl.bl.size
 have hbase : base ≤ wc.heap.size := Nat.le_of_lt (Nat.lt_of_le_of_lt hs.kn.ge hs.kn.blk.lt)
 simp only [knC, hM, ZG, ZH, ZJ] at k16
 have hneR := own_ne ho hs.row (by decide)
 have hneO := own_ne ho hs.out (by decide)
 have hneB := own_ne ho hs.kn.blk (by decide)
 have k16a : (wc.alloc (.cells #[ZI ZQ 0, ZI ZQ onum, ZI ZQ osize, .bool oel, .bool true, .bool true, .bool oect, ZI ZQ rt] 106)).cell? ⟨b, 16, none⟩ = some (.slice A8 M c8) := by have := (hs.kn.blk.alloc (.cells #[ZI ZQ 0, ZI ZQ onum, ZI ZQ osize, .bool oel, .bool true, .bool true, .bool oect, ZI ZQ rt] 106)).cell 16; rw [this]; simp [knC, hM]
 have k16b : (wc.alloc (.cells #[ZI ZQ 0, ZI ZQ onum, ZI ZQ osize, .bool oel, .bool true, .bool true, .bool oect, ZI ZQ rt] 106)).drew.cell? ⟨b, 16, none⟩ = some (.slice A8 M c8) := k16a
 have HPX : Hid ((k.flying ++ [(⟨⟨0, onum, osize, oel, true, true, oect⟩, rt⟩ : PKT)]).length = M + 1 ∧ (k.flying ++ [(⟨⟨0, onum, osize, oel, true, true, oect⟩, rt⟩ : PKT)]).flatMap pktL = xs ++ [ZI ZQ 0, ZI ZQ onum, ZI ZQ osize, .bool oel, .bool true, .bool true, .bool oect, ZI ZQ rt]) := ⟨by rw [List.length_append, hM]; rfl, by rw [List.flatMap_append, hxs]; rfl⟩
 have hM' := hide hM
 have hBO : ∀ (W : World), Blk W (R + 1) 28 (outL ⟨0, onum, osize, oel, true, true, oect⟩).toArray → W.cell? ⟨R + 1, 0, none⟩ = some (ZI ZQ 0) ∧ W.cell? ⟨R + 1, 1, none⟩ = some (ZI ZQ onum) ∧ W.cell? ⟨R + 1, 2, none⟩ = some (ZI ZQ osize) ∧ W.cell? ⟨R + 1, 3, none⟩ = some (.bool oel) ∧ W.cell? ⟨R + 1, 4, none⟩ = some (.bool true) ∧ W.cell? ⟨R + 1, 5, none⟩ = some (.bool true) ∧ W.cell? ⟨R + 1, 6, none⟩ = some (.bool oect) := fun W h => ⟨h.cell 0, h.cell 1, h.cell 2, h.cell 3, h.cell 4, h.cell 5, h.cell 6⟩
 have HBO := hide hBO
 clear hBO
 go_upto_region 11 with (fail)
 go_cut [] (fun wx => ∃ vf', SnSt w wx b base (flownK k ⟨0, onum, osize, oel, true, true, oect⟩ rt) vf' vp vd R (R + 1) #[ZI ZQ kind, ZI ZQ rt, ZI ZQ rsp, ZI ZQ rsize, ZI ZQ 0, ZI ZQ onum, ZI ZQ osize, .bool oel, .bool true, .bool true, .bool oect, ZI ZQ delay, .slice ra rn rc, .bool marked, ZI ZQ e0, ZI ZQ e1, ZI ZQ e2, .slice ea 0 ec, ZI ZQ err, ZI ZQ smooth] ⟨0, onum, osize, oel, true, true, oect⟩)
 case first =>
  have hS0 : (wc.drew.cell? ⟨R, 1, none⟩ = some (ZI ZQ rt)) ∧ Blk wc.drew (R + 1) 28 (outL ⟨0, onum, osize, oel, true, true, oect⟩).toArray := ⟨hs.drew.row.cell 1, hs.drew.out⟩
  refine wp_region_held_drew (S := (fun w' => w'.cell? ⟨R, 1, none⟩ = some (ZI ZQ rt) ∧ Blk w' (R + 1) 28 (outL ⟨0, onum, osize, oel, true, true, oect⟩).toArray)) (by kernel_rfl) hS0 (fun hHeld => ?_)
  refine tkP 0 ?_ rfl ?_ ?_
  rotate_left
  ·intro w' hSw; (try dsimp only at hSw); obtain ⟨hw1, hw2⟩ := hSw; obtain ⟨hb0, hb1, hb2, hb3, hb4, hb5, hb6⟩ := HBO.out _ hw2; go_simp; try with_reducible rfl
  try simp only [ZP, ZD, ZE, ZF]
  refine tkP 1 ?_ rfl ?_ ?_
  rotate_left
  ·intro w' hSw; (try dsimp only at hSw); obtain ⟨hw1, hw2⟩ := hSw; obtain ⟨hb0, hb1, hb2, hb3, hb4, hb5, hb6⟩ := HBO.out _ hw2; go_simp; try with_reducible rfl
  try simp only [ZP, ZD, ZE, ZF]
  refine tkP 2 ?_ rfl ?_ ?_
  rotate_left
  ·intro w' hSw; (try dsimp only at hSw); obtain ⟨hw1, hw2⟩ := hSw; obtain ⟨hb0, hb1, hb2, hb3, hb4, hb5, hb6⟩ := HBO.out _ hw2; go_simp; try with_reducible rfl
  try simp only [ZP, ZD, ZE, ZF]
  refine tkP 3 ?_ rfl ?_ ?_
  rotate_left
  ·intro w' hSw; (try dsimp only at hSw); obtain ⟨hw1, hw2⟩ := hSw; obtain ⟨hb0, hb1, hb2, hb3, hb4, hb5, hb6⟩ := HBO.out _ hw2; go_simp; try with_reducible rfl
  try simp only [ZP, ZD, ZE, ZF]
  refine tkP 5 ?_ rfl ?_ ?_
  rotate_left
  ·intro w' hSw; (try dsimp only at hSw); obtain ⟨hw1, hw2⟩ := hSw; obtain ⟨hb0, hb1, hb2, hb3, hb4, hb5, hb6⟩ := HBO.out _ hw2; go_simp; try with_reducible rfl
  try simp only [ZP, ZD, ZE, ZF]
  refine tkP 6 ?_ rfl ?_ ?_
  rotate_left
  ·intro w' hSw; (try dsimp only at hSw); obtain ⟨hw1, hw2⟩ := hSw; obtain ⟨hb0, hb1, hb2, hb3, hb4, hb5, hb6⟩ := HBO.out _ hw2; go_simp; try with_reducible rfl
  try simp only [ZP, ZD, ZE, ZF]
  refine tkP 7 ?_ rfl ?_ ?_
  rotate_left
  ·intro w' hSw; (try dsimp only at hSw); obtain ⟨hw1, hw2⟩ := hSw; obtain ⟨hb0, hb1, hb2, hb3, hb4, hb5, hb6⟩ := HBO.out _ hw2; go_simp; try with_reducible rfl
  try simp only [ZP, ZD, ZE, ZF]
  refine tkP 8 ?_ rfl ?_ ?_
  rotate_left
  ·intro w' hSw; (try dsimp only at hSw); obtain ⟨hw1, hw2⟩ := hSw; obtain ⟨hb0, hb1, hb2, hb3, hb4, hb5, hb6⟩ := HBO.out _ hw2; go_simp; try with_reducible rfl
  try simp only [ZP, ZD, ZE, ZF]
  refine tkR [4, 9] ?_
  refine ZS rfl (fun K hK => ?_) ?_
  ·skip
   go_simp
   refine hK.out _ _ (hS0) (fun hHeld => ?_)
   clear hK K
   refine tkR [9] ?_
   refine ZS rfl (fun K hK => ?_) ZN
   go_simp
   refine hK.out _ _ (by exact ⟨(hs.row.alloc _).cell 1, hs.out.alloc _⟩) (fun hHeld => ?_)
   clear hK K
   refine tkR [10] ?_
   refine ZS rfl (fun K hK => ?_) ZN
   refine step_append_any _ rfl (.tmp 136) (.tmp 141) _ rfl base 106 i0 _ 8 40 Try.underlying55 hi0 hz0 hz1 hz2 rfl (by decide) (.slice A8 M c8) M xs rfl (by exact ho.alloc _) (wc.heap.size + 1) (some ⟨wc.heap.size, 0, none⟩) 1 1 [ZI ZQ 0, ZI ZQ onum, ZI ZQ osize, .bool oel, .bool true, .bool true, .bool oect, ZI ZQ rt] rfl (by exact reads_lit (blk_new_at (by simp)) (by simp) rfl) (by simp [Value.oneCell']) (by unfold maxLen; omega) (by omega) (by simp; omega) ?_; intro v8 w8 hown8 hg8 hat8; obtain ⟨g8, cap8, rfl⟩ := own_form hown8; have hr8 := blk_grown (t := 36) (by exact hs.row.alloc _) hg8 hneR; have ho8 := blk_grown (t := 28) (by exact hs.out.alloc _) hg8 hneO; have hb8 := blk_grown (t := 58) (by exact hs.kn.blk.alloc _) hg8 hneB; have y8 := hb8.cell 16; have f8 := hb8.frozen 16
   try go_simp
   refine hK.out _ _ (by exact ⟨hr8.cell 1, ho8⟩) (fun hHeld => ?_)
   clear hK K
   refine tkP 11 ?_ rfl ?_ ?_
   rotate_left
   ·intro w' hSw; (try dsimp only at hSw); obtain ⟨hw1, hw2⟩ := hSw; obtain ⟨hb0, hb1, hb2, hb3, hb4, hb5, hb6⟩ := HBO.out _ hw2; go_simp; try with_reducible rfl
   try simp only [ZP, ZD, ZE, ZF]
   refine tkP 12 ?_ rfl ?_ ?_
   rotate_left
   ·intro w' hSw; (try dsimp only at hSw); obtain ⟨hw1, hw2⟩ := hSw; obtain ⟨hb0, hb1, hb2, hb3, hb4, hb5, hb6⟩ := HBO.out _ hw2; go_simp; try with_reducible rfl
   try simp only [ZP, ZD, ZE, ZF]
   refine tkR [13] ?_
   refine ZS rfl (fun K hK => ?_) ZN
   go_simp
   refine hK.out _ _ (by exact ⟨(hr8.far (blk_ne hr8 hb8 (by decide)) _).cell 1, ho8.far (blk_ne ho8 hb8 (by decide)) _⟩) (fun hHeld => ?_)
   clear hK K
   refine wpAnyH_done (by kernel_rfl) ?_ _
   go_wp2_with fail
   go_meet
   exact ⟨_, SnSt.pushFlying hs (vf := .slice A8 k.flying.length c8) (X := (.cells #[ZI ZQ 0, ZI ZQ onum, ZI ZQ osize, .bool oel, .bool true, .bool true, .bool oect, ZI ZQ rt] 106)) (by rw [hM'.out]; exact ⟨hg8.os, hg8.tape, hg8.output, hg8.size, hg8.block⟩) (by rw [HPX.out.1, HPX.out.2]; exact hown8)⟩
  refine ZS rfl (fun K hK => ?_) ZN
  go_simp
  refine hK.out _ _ (by exact ⟨(hs.row.alloc _).cell 1, hs.out.alloc _⟩) (fun hHeld => ?_)
  clear hK K
  refine tkR [4] ?_
  refine ZS rfl (fun K hK => ?_) ZN
  go_simp
  refine hK.out _ _ (by exact ⟨(hs.row.alloc _).cell 1, hs.out.alloc _⟩) (fun hHeld => ?_)
  clear hK K
  refine tkR [10] ?_
  refine ZS rfl (fun K hK => ?_) ZN
  refine step_append_any _ rfl (.tmp 136) (.tmp 141) _ rfl base 106 i0 _ 8 40 Try.underlying55 hi0 hz0 hz1 hz2 rfl (by decide) (.slice A8 M c8) M xs rfl (by exact ho.alloc _) (wc.heap.size + 1) (some ⟨wc.heap.size, 0, none⟩) 1 1 [ZI ZQ 0, ZI ZQ onum, ZI ZQ osize, .bool oel, .bool true, .bool true, .bool oect, ZI ZQ rt] rfl (by exact reads_lit (blk_new_at (by simp)) (by simp) rfl) (by simp [Value.oneCell']) (by unfold maxLen; omega) (by omega) (by simp; omega) ?_; intro v8 w8 hown8 hg8 hat8; obtain ⟨g8, cap8, rfl⟩ := own_form hown8; have hr8 := blk_grown (t := 36) (by exact hs.row.alloc _) hg8 hneR; have ho8 := blk_grown (t := 28) (by exact hs.out.alloc _) hg8 hneO; have hb8 := blk_grown (t := 58) (by exact hs.kn.blk.alloc _) hg8 hneB; have y8 := hb8.cell 16; have f8 := hb8.frozen 16
  try go_simp
  refine hK.out _ _ (by exact ⟨hr8.cell 1, ho8⟩) (fun hHeld => ?_)
  clear hK K
  refine tkP 11 ?_ rfl ?_ ?_
  rotate_left
  ·intro w' hSw; (try dsimp only at hSw); obtain ⟨hw1, hw2⟩ := hSw; obtain ⟨hb0, hb1, hb2, hb3, hb4, hb5, hb6⟩ := HBO.out _ hw2; go_simp; try with_reducible rfl
  try simp only [ZP, ZD, ZE, ZF]
  refine tkP 12 ?_ rfl ?_ ?_
  rotate_left
  ·intro w' hSw; (try dsimp only at hSw); obtain ⟨hw1, hw2⟩ := hSw; obtain ⟨hb0, hb1, hb2, hb3, hb4, hb5, hb6⟩ := HBO.out _ hw2; go_simp; try with_reducible rfl
  try simp only [ZP, ZD, ZE, ZF]
  refine tkR [13] ?_
  refine ZS rfl (fun K hK => ?_) ZN
  go_simp
  refine hK.out _ _ (by exact ⟨(hr8.far (blk_ne hr8 hb8 (by decide)) _).cell 1, ho8.far (blk_ne ho8 hb8 (by decide)) _⟩) (fun hHeld => ?_)
  clear hK K
  refine wpAnyH_done (by kernel_rfl) ?_ _
  go_wp2_with fail
  go_meet
  exact ⟨_, SnSt.pushFlying hs (vf := .slice A8 k.flying.length c8) (X := (.cells #[ZI ZQ 0, ZI ZQ onum, ZI ZQ osize, .bool oel, .bool true, .bool true, .bool oect, ZI ZQ rt] 106)) (by rw [hM'.out]; exact ⟨hg8.os, hg8.tape, hg8.output, hg8.size, hg8.block⟩) (by rw [HPX.out.1, HPX.out.2]; exact hown8)⟩
 case rest =>
  obtain ⟨vf', hs12⟩ := hcut
  have HS12 := hide hs12
  have o0 := hs12.drew.out.cell 0
  have o1 := hs12.drew.out.cell 1
  have f17 := hs12.drew.kn.blk.frozen 17
  have k17 := hs12.drew.kn.blk.cell 17
  simp only [knC, outL, ZG, ZH, ZJ] at o0 o1 k17
  clear hs12 k16 f16 k16a k16b ho hneR hneO hneB HPX hM' hM hxs hs hsz11 hbase hi0 hz0 hz1 hz2 HBO
  go_wp2_with fail
  refine wp_region_still_tail 8 (by kernel_rfl) (by kernel_rfl) ?_
  simp only [List.take_succ_cons, List.take_zero, List.drop_succ_cons, List.drop_zero]
  change wpStill _ _ wc.drew _ _ _
  repeat (refine wpStill_step (fun K hK => ?_); go_simp; with_reducible refine hK _ ?_; clear hK K)
  refine wpStill_nil ?_
  change wpList _ _ _ _ _ wc.drew
  go_wp2_with fail
  obtain ⟨lst, hlst⟩ : ∃ x, (fun j => if j = 0 then onum else (flownK k ⟨0, onum, osize, oel, true, true, oect⟩ rt).last j) = x := ⟨_, rfl⟩
  have hs13 := (HS12.out.put 17 (ZI ZQ onum) { (flownK k ⟨0, onum, osize, oel, true, true, oect⟩ rt) with last := fun j => if j = 0 then onum else (flownK k ⟨0, onum, osize, oel, true, true, oect⟩ rt).last j } rfl rfl rfl rfl).drew
  have HS13 := hide hs13
  obtain ⟨W13, hW13⟩ : ∃ x, (wc.setCell ⟨b, 17, none⟩ (ZI ZQ onum)).drew = x := ⟨_, rfl⟩
  rw [hW13] at hs13 HS13
  rw [hW13]
  clear hW13 o0 o1 f17 k17 HS12
  have o2 := hs13.drew.out.cell 2
  have k13 := hs13.drew.kn.blk.cell 13
  have f13 := hs13.drew.kn.blk.frozen 13
  simp only [knC, outL, flownK, pacedK, ZG, ZH, ZJ] at o2 k13
  have HAD := hide (fun W => still_add (jadd_any k.sent osize W))
  clear hs13
  refine wp_region_still_tail 10 (by kernel_rfl) (by kernel_rfl) ?_
  simp only [List.take_succ_cons, List.take_zero, List.drop_succ_cons, List.drop_zero]
  change wpStill _ _ W13.drew _ _ _
  repeat (refine wpStill_step (fun K hK => ?_); go_simp; (first | (with_reducible refine hK _ ?_) | with_reducible refine ⟨_, HAD.out _, hK _ ?_⟩); clear hK K)
  refine wpStill_nil ?_
  change wpList _ _ _ _ _ W13.drew
  go_upto_region 14 with (fail)
  have hs14 := (HS13.out.put 13 (ZI ZQ (addI k.sent osize)) ({ (flownK k ⟨0, onum, osize, oel, true, true, oect⟩ rt) with last := fun j => if j = 0 then onum else (flownK k ⟨0, onum, osize, oel, true, true, oect⟩ rt).last j, sent := addI k.sent osize }) rfl rfl rfl rfl).drew
  obtain ⟨W14, hW14⟩ : ∃ x, (W13.setCell ⟨b, 13, none⟩ (ZI ZQ (addI k.sent osize))).drew = x := ⟨_, rfl⟩
  rw [hW14] at hs14
  rw [hW14]
  have o5 := hs14.out.cell 5
  have HS14 := hide hs14
  simp only [outL, ZG, ZH, ZJ] at o5
  clear hW14 hs14 HS13 o2 k13 f13
  go_wp2_with fail
  have o0 := HS14.out.drew.out.cell 0
  have k23 := HS14.out.drew.kn.blk.cell 23
  have f23 := HS14.out.drew.kn.blk.frozen 23
  simp only [knC, outL, flownK, ZG, ZH, ZJ] at o0 k23
  refine wp_region_still_tail 11 (by kernel_rfl) (by kernel_rfl) ?_
  simp only [List.take_succ_cons, List.take_zero, List.drop_succ_cons, List.drop_zero]
  change wpStill _ _ W14.drew _ _ _
  repeat (refine wpStill_step (fun K hK => ?_); go_simp; with_reducible refine hK _ ?_; clear hK K)
  refine wpStill_nil ?_
  change wpList _ _ _ _ _ W14.drew
  go_wp2_with fail
  go_end0
  have hs15 := (HS14.out.put 23 (ZI ZQ (k.own 0 - 1)) (probeK k ⟨0, onum, osize, oel, true, true, oect⟩ rt) rfl rfl rfl rfl).drew
  exact StepPost.ok rfl hs15.kn hs15.bl
end Go.Proofs.Ytidfngcclbhoaaa
