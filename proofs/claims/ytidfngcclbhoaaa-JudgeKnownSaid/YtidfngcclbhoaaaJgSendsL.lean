/-
 Layer 24 (judge): sends, of a plain packet of a client: the walk of one that is none.
-/
import Derived.Test.YtidfngcclbhoaaaJgSendsA
import Derived.StillTail
namespace Go.Proofs.Ytidfngcclbhoaaa
open List renaming getElem?_toArray → ZG, getElem?_cons_zero → ZH, getElem?_cons_succ → ZJ
open Go.Value renaming int → ZI
open Go.IntKind renaming i64 → ZQ
set_option linter.unusedSimpArgs false
set_option linter.unusedVariables false
open Go.RowKit Go.Shelf
set_option maxRecDepth 100000 in
set_option maxHeartbeats 8000000 in
theorem sends_low (b base : Nat) (k : KN) (vf vp vd : Value) (r : RW) (w : World) (hK : KnAt w b base k vf vp vd) (hpi : ∀ p ∈ k.pieces, okPie p) (hl : k.pieces.length ≤ 2000) (hpd : ∀ p ∈ k.paced, okPcd p) (hll : k.paced.length ≤ 1900) (hfl : ∀ p ∈ k.flying, okP p) (hfn : k.flying.length ≤ 1900)
  (he : r.en = 0) (hsp : r.o.sp = 0) (hnum : 0 ≤ r.o.num ∧ r.o.num ≤ 9007199254740991) (hsz : 1 ≤ r.o.size ∧ r.o.size ≤ k.c.d) (hd : k.c.d ≤ 65527) (hpl : r.o.fl = true) (hpr : r.o.pr = false) (ht : 0 ≤ r.t ∧ r.t ≤ 68719476736)
  (hlast : r.o.num ≤ k.last 0) :
  Calls Try.prog 27 #[.pointer (some ⟨b, 0, none⟩), .agg (rwC r)] w (StepPost b base w (.error 4)) := by
 obtain ⟨kind, rt, rsp, rsize, ⟨osp, onum, osize, oel, ofl, opr, oect⟩, delay, ra, rn, rc, marked, e0, e1, e2, ea, en, ec, err, smooth⟩ := r
 simp only at he hsp hnum hsz hpl hpr ht hlast ⊢
 subst he hsp hpl hpr
 have HK := hide hK
 have q1 := hK.blk.cell 1
 have q5 := hK.blk.cell 11
 have hkl := hK.blk.lt
 simp only [knC, ZG, ZH, ZJ] at q1 q5
 have HY := hide (fun rule W => unless_yes rule W)
 have HN := hide (fun rule W => unless_no rule W)
 have HSP := hide (fun W => isspace_any 0 W)
 have HIS := hide (fun W => jis_any onum W)
 rw [show (decide (0 ≤ onum) && decide (onum ≤ 9007199254740991)) = true by simp [hnum.1, hnum.2]] at HIS
 rw [show (decide ((0 : Int) ≤ 0) && decide ((0 : Int) < 3)) = true from rfl] at HSP
 obtain ⟨z0, z1⟩ := hsz
 go_enter Try.func27, Try.ntmps27
 unfold rwC
 go_wp2_with fail
 have hs0 : SnSt w ((w.alloc (.cells #[ZI ZQ kind, ZI ZQ rt, ZI ZQ rsp, ZI ZQ rsize, ZI ZQ 0, ZI ZQ onum, ZI ZQ osize, .bool oel, .bool true, .bool false, .bool oect, ZI ZQ delay, .slice ra rn rc, .bool marked, ZI ZQ e0, ZI ZQ e1, ZI ZQ e2, .slice ea 0 ec, ZI ZQ err, ZI ZQ smooth] 36)).alloc (.cells #[ZI ZQ 0, ZI ZQ onum, ZI ZQ osize, .bool oel, .bool true, .bool false, .bool oect] 28)) b base k vf vp vd w.heap.size (w.heap.size + 1) #[ZI ZQ kind, ZI ZQ rt, ZI ZQ rsp, ZI ZQ rsize, ZI ZQ 0, ZI ZQ onum, ZI ZQ osize, .bool oel, .bool true, .bool false, .bool oect, ZI ZQ delay, .slice ra rn rc, .bool marked, ZI ZQ e0, ZI ZQ e1, ZI ZQ e2, .slice ea 0 ec, ZI ZQ err, ZI ZQ smooth] ⟨0, onum, osize, oel, true, false, oect⟩ := by
  have ha : Below w.heap.size w ((w.alloc (.cells #[ZI ZQ kind, ZI ZQ rt, ZI ZQ rsp, ZI ZQ rsize, ZI ZQ 0, ZI ZQ onum, ZI ZQ osize, .bool oel, .bool true, .bool false, .bool oect, ZI ZQ delay, .slice ra rn rc, .bool marked, ZI ZQ e0, ZI ZQ e1, ZI ZQ e2, .slice ea 0 ec, ZI ZQ err, ZI ZQ smooth] 36)).alloc (.cells #[ZI ZQ 0, ZI ZQ onum, ZI ZQ osize, .bool oel, .bool true, .bool false, .bool oect] 28)) := ((Below.refl _ _).alloc (Nat.le_refl _) _).alloc (by simp) _
  refine ⟨HK.out.later ha, (Blk.new _ _ _).alloc _, ?_, Far.of_below ha (Nat.le_of_lt (Nat.lt_of_le_of_lt HK.out.ge hkl))⟩
  have := Blk.new (w.alloc (.cells #[ZI ZQ kind, ZI ZQ rt, ZI ZQ rsp, ZI ZQ rsize, ZI ZQ 0, ZI ZQ onum, ZI ZQ osize, .bool oel, .bool true, .bool false, .bool oect, ZI ZQ delay, .slice ra rn rc, .bool marked, ZI ZQ e0, ZI ZQ e1, ZI ZQ e2, .slice ea 0 ec, ZI ZQ err, ZI ZQ smooth] 36)) 28 #[ZI ZQ 0, ZI ZQ onum, ZI ZQ osize, .bool oel, .bool true, .bool false, .bool oect]
  simpa [outL] using this
 obtain ⟨W1, hW1⟩ : ∃ x, (w.alloc (.cells #[ZI ZQ kind, ZI ZQ rt, ZI ZQ rsp, ZI ZQ rsize, ZI ZQ 0, ZI ZQ onum, ZI ZQ osize, .bool oel, .bool true, .bool false, .bool oect, ZI ZQ delay, .slice ra rn rc, .bool marked, ZI ZQ e0, ZI ZQ e1, ZI ZQ e2, .slice ea 0 ec, ZI ZQ err, ZI ZQ smooth] 36)).alloc (.cells #[ZI ZQ 0, ZI ZQ onum, ZI ZQ osize, .bool oel, .bool true, .bool false, .bool oect] 28) = x := ⟨_, rfl⟩
 obtain ⟨R, hR⟩ : ∃ x, w.heap.size = x := ⟨_, rfl⟩
 rw [hW1, hR] at hs0
 rw [hW1, hR]
 have HS1 := hide hs0
 have k1 := hs0.kn.blk.cell 1
 have r17 := hs0.row.cell 17
 have o0 := hs0.out.cell 0
 have o1 := hs0.out.cell 1
 have o2 := hs0.out.cell 2
 simp only [knC, outL, ZG, ZH, ZJ] at k1 r17 o0 o1 o2
 clear hs0 hW1 hR q1 q5 hK hkl
 go_quiet (first | (go_at_call 53; with_reducible exact quiet24 (HSP.out _)) | (go_at_call 25; with_reducible exact quiet24 (HIS.out _)) | (go_at_call 23; with_reducible exact quiet24 (HY.out _ _)))
 have hs1 := HS1.out.drewN nq
 obtain ⟨W2, hW2⟩ : ∃ x, W1.drewN nq = x := ⟨_, rfl⟩
 rw [hW2] at hs1
 try rw [hW2]
 have HS2 := hide hs1
 clear k1 r17 o0 o1 o2 hW2 hs1 HS1
 have k17 := HS2.out.kn.blk.cell 17
 have o0 := HS2.out.out.cell 0
 have o1 := HS2.out.out.cell 1
 simp only [knC, outL, ZG, ZH, ZJ] at k17 o0 o1
 go_wp2_with fail
 have HNN := hide (fun W => unless_no 4 W)
 refine wp_region_still_tail 10 (by kernel_rfl) (by kernel_rfl) ?_
 simp only [List.take_succ_cons, List.take_zero, List.drop_succ_cons, List.drop_zero]
 change wpStill _ _ W2.drew _ _ _
 have o0 := (World.cell?_drew W2 ⟨R + 1, 0, none⟩).trans o0
 have o1 := (World.cell?_drew W2 ⟨R + 1, 1, none⟩).trans o1
 have k17 := (World.cell?_drew W2 ⟨b, 17, none⟩).trans k17
 repeat (refine wpStill_step (fun K hK => ?_); go_simp; with_reducible refine hK _ ?_; clear hK K)
 refine wpStill_nil ?_
 change wpList _ _ _ _ _ W2.drew
 go_wp2_with fail
 rw [show decide (k.last 0 < onum) = false from decide_eq_false (by omega)]
 with_reducible refine (HNN.out _).mono ?_
 rintro y2 u2 ⟨rfl, rfl⟩
 exact ⟨rfl, StepPost.err rfl HS2.out.drew.bl⟩
end Go.Proofs.Ytidfngcclbhoaaa
