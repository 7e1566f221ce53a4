/-
 The document: sends, what lies: 3 texts in one (JrSends, JrSentA, JrDoesA).
-/
import Derived.Test.YtidfngcclbhoaaaMjRefA
import Derived.StillTail
import Derived.Deep.RegionHeld3
namespace Go.Proofs.Ytidfngcclbhoaaa
open List renaming getElem?_toArray → ZG, getElem?_cons_zero → ZH, getElem?_cons_succ → ZJ
open Go.Value renaming int → ZI
open Go.IntKind renaming i64 → ZQ
set_option linter.unusedSimpArgs false
set_option linter.unusedVariables false
open Go.RowKit Go.Shelf
/-- What lies while the document looks at a packet. -/
structure RnSt (w W : World) (b base : Nat) (k : KN) (vL vA vR vP : Value) (R O : Nat) (rw_ : Array Value) (o : OUT) : Prop where
 kn : KrAt W b base k vL vA vR vP
 row : Blk W R 93 rw_
 out : Blk W O 28 (outL o).toArray
 bl : Below w.heap.size w W
theorem RnSt.later {w W W' : World} {b base : Nat} {k : KN} {vL vA vR vP : Value} {R O : Nat} {rw_ : Array Value} {o : OUT} (h : RnSt w W b base k vL vA vR vP R O rw_ o) (hb : Below W.heap.size W W') : RnSt w W' b base k vL vA vR vP R O rw_ o :=
 ⟨h.kn.later hb, (hb.block _ h.row.lt).trans h.row, (hb.block _ h.out.lt).trans h.out, h.bl.trans (hb.mono h.bl.size)⟩
theorem RnSt.drewN {w W : World} {b base : Nat} {k : KN} {vL vA vR vP : Value} {R O : Nat} {rw_ : Array Value} {o : OUT} (h : RnSt w W b base k vL vA vR vP R O rw_ o) (n : Nat) : RnSt w (W.drewN n) b base k vL vA vR vP R O rw_ o := h.later (below_drewN (Below.refl _ _) n)
theorem RnSt.drew {w W : World} {b base : Nat} {k : KN} {vL vA vR vP : Value} {R O : Nat} {rw_ : Array Value} {o : OUT} (h : RnSt w W b base k vL vA vR vP R O rw_ o) : RnSt w W.drew b base k vL vA vR vP R O rw_ o := h.drewN 1
set_option maxRecDepth 100000 in
set_option maxHeartbeats 8000000 in
theorem rsends_nospace (b base : Nat) (k : KN) (vL vA vR vP : Value) (r : RW) (w : World) (hK : KrAt w b base k vL vA vR vP) (hfl : ∀ p ∈ k.flying, okP p) (hfn : k.flying.length ≤ 1900) (hd : k.c.d ≤ 65527) (he : r.en = 0) (hsp : r.o.sp = 3) :
  Calls Try.prog 75 #[.pointer (some ⟨b, 0, none⟩), .agg (rwC r)] w fun e w' => e = .returned (ZI ZQ 4) ∧ Below w.heap.size w w' := by
 obtain ⟨kind, rt, rsp, rsize, ⟨osp, onum, osize, oel, ofl, opr, oect⟩, delay, ra, rn, rc, marked, e0, e1, e2, ea, en, ec, err, smooth⟩ := r
 simp only at he hsp 
 subst he hsp
 have HK := hide hK
 have q1 := hK.blk.cell 1
 have hkl := hK.blk.lt
 simp only [krC, ZG, ZH, ZJ] at q1
 have HSP := hide (fun W => rspace_any 3 W)
 have HIS := hide (fun W => ris_any onum W)
 rw [show isSp 3 = false from rfl] at HSP
 go_enter Try.func75, Try.ntmps75
 unfold rwC
 go_upto_region 2 with (fail)
 have hs0 : RnSt w ((w.alloc (.cells #[ZI ZQ kind, ZI ZQ rt, ZI ZQ rsp, ZI ZQ rsize, ZI ZQ 3, ZI ZQ onum, ZI ZQ osize, .bool oel, .bool ofl, .bool opr, .bool oect, ZI ZQ delay, .slice ra rn rc, .bool marked, ZI ZQ e0, ZI ZQ e1, ZI ZQ e2, .slice ea 0 ec, ZI ZQ err, ZI ZQ smooth] 93)).alloc (.cells #[ZI ZQ 3, ZI ZQ onum, ZI ZQ osize, .bool oel, .bool ofl, .bool opr, .bool oect] 28)) b base k vL vA vR vP w.heap.size (w.heap.size + 1) #[ZI ZQ kind, ZI ZQ rt, ZI ZQ rsp, ZI ZQ rsize, ZI ZQ 3, ZI ZQ onum, ZI ZQ osize, .bool oel, .bool ofl, .bool opr, .bool oect, ZI ZQ delay, .slice ra rn rc, .bool marked, ZI ZQ e0, ZI ZQ e1, ZI ZQ e2, .slice ea 0 ec, ZI ZQ err, ZI ZQ smooth] ⟨3, onum, osize, oel, ofl, opr, oect⟩ := by
  have ha : Below w.heap.size w ((w.alloc (.cells #[ZI ZQ kind, ZI ZQ rt, ZI ZQ rsp, ZI ZQ rsize, ZI ZQ 3, ZI ZQ onum, ZI ZQ osize, .bool oel, .bool ofl, .bool opr, .bool oect, ZI ZQ delay, .slice ra rn rc, .bool marked, ZI ZQ e0, ZI ZQ e1, ZI ZQ e2, .slice ea 0 ec, ZI ZQ err, ZI ZQ smooth] 93)).alloc (.cells #[ZI ZQ 3, ZI ZQ onum, ZI ZQ osize, .bool oel, .bool ofl, .bool opr, .bool oect] 28)) := ((Below.refl _ _).alloc (Nat.le_refl _) _).alloc (by simp) _
  refine ⟨HK.out.later ha, (Blk.new _ _ _).alloc _, ?_, ha⟩
  have := Blk.new (w.alloc (.cells #[ZI ZQ kind, ZI ZQ rt, ZI ZQ rsp, ZI ZQ rsize, ZI ZQ 3, ZI ZQ onum, ZI ZQ osize, .bool oel, .bool ofl, .bool opr, .bool oect, ZI ZQ delay, .slice ra rn rc, .bool marked, ZI ZQ e0, ZI ZQ e1, ZI ZQ e2, .slice ea 0 ec, ZI ZQ err, ZI ZQ smooth] 93)) 28 #[ZI ZQ 3, ZI ZQ onum, ZI ZQ osize, .bool oel, .bool ofl, .bool opr, .bool oect]
  simpa [outL] using this
 obtain ⟨W1, hW1⟩ : ∃ x, (w.alloc (.cells #[ZI ZQ kind, ZI ZQ rt, ZI ZQ rsp, ZI ZQ rsize, ZI ZQ 3, ZI ZQ onum, ZI ZQ osize, .bool oel, .bool ofl, .bool opr, .bool oect, ZI ZQ delay, .slice ra rn rc, .bool marked, ZI ZQ e0, ZI ZQ e1, ZI ZQ e2, .slice ea 0 ec, ZI ZQ err, ZI ZQ smooth] 93)).alloc (.cells #[ZI ZQ 3, ZI ZQ onum, ZI ZQ osize, .bool oel, .bool ofl, .bool opr, .bool oect] 28) = x := ⟨_, rfl⟩
 obtain ⟨R, hR⟩ : ∃ x, w.heap.size = x := ⟨_, rfl⟩
 rw [hW1, hR] at hs0
 rw [hW1, hR]
 have HS1 := hide hs0
 have k1 := hs0.kn.blk.cell 1
 have k18 := hs0.kn.blk.cell 18
 have r17 := hs0.row.cell 17
 have o0 := hs0.out.cell 0
 have o1 := hs0.out.cell 1
 have o2 := hs0.out.cell 2
 simp only [krC, outL, ZG, ZH, ZJ] at k1 k18 r17 o0 o1 o2
 clear hs0 hW1 hR q1 hK hkl
 go_quiet (first | (go_at_call 77; with_reducible exact quiet24 (HSP.out _)) | (go_at_call 65; with_reducible exact quiet24 (HIS.out _)))
 go_wp2_with fail
 go_ret
 exact ⟨rfl, below_drewN HS1.out.bl _⟩
set_option maxRecDepth 100000 in
set_option maxHeartbeats 8000000 in
theorem rsends_nonumber (b base : Nat) (k : KN) (vL vA vR vP : Value) (r : RW) (w : World) (hK : KrAt w b base k vL vA vR vP) (hfl : ∀ p ∈ k.flying, okP p) (hfn : k.flying.length ≤ 1900) (hd : k.c.d ≤ 65527) (he : r.en = 0) (hsp : r.o.sp = 0) (hq : isN r.o.num = false) :
  Calls Try.prog 75 #[.pointer (some ⟨b, 0, none⟩), .agg (rwC r)] w fun e w' => e = .returned (ZI ZQ 4) ∧ Below w.heap.size w w' := by
 obtain ⟨kind, rt, rsp, rsize, ⟨osp, onum, osize, oel, ofl, opr, oect⟩, delay, ra, rn, rc, marked, e0, e1, e2, ea, en, ec, err, smooth⟩ := r
 simp only at he hsp hq
 subst he hsp
 have HK := hide hK
 have q1 := hK.blk.cell 1
 have hkl := hK.blk.lt
 simp only [krC, ZG, ZH, ZJ] at q1
 have HSP := hide (fun W => rspace_any 0 W)
 have HIS := hide (fun W => ris_any onum W)
 rw [show isSp 0 = true from rfl] at HSP
 rw [hq] at HIS
 clear hq
 go_enter Try.func75, Try.ntmps75
 unfold rwC
 go_upto_region 2 with (fail)
 have hs0 : RnSt w ((w.alloc (.cells #[ZI ZQ kind, ZI ZQ rt, ZI ZQ rsp, ZI ZQ rsize, ZI ZQ 0, ZI ZQ onum, ZI ZQ osize, .bool oel, .bool ofl, .bool opr, .bool oect, ZI ZQ delay, .slice ra rn rc, .bool marked, ZI ZQ e0, ZI ZQ e1, ZI ZQ e2, .slice ea 0 ec, ZI ZQ err, ZI ZQ smooth] 93)).alloc (.cells #[ZI ZQ 0, ZI ZQ onum, ZI ZQ osize, .bool oel, .bool ofl, .bool opr, .bool oect] 28)) b base k vL vA vR vP w.heap.size (w.heap.size + 1) #[ZI ZQ kind, ZI ZQ rt, ZI ZQ rsp, ZI ZQ rsize, ZI ZQ 0, ZI ZQ onum, ZI ZQ osize, .bool oel, .bool ofl, .bool opr, .bool oect, ZI ZQ delay, .slice ra rn rc, .bool marked, ZI ZQ e0, ZI ZQ e1, ZI ZQ e2, .slice ea 0 ec, ZI ZQ err, ZI ZQ smooth] ⟨0, onum, osize, oel, ofl, opr, oect⟩ := by
  have ha : Below w.heap.size w ((w.alloc (.cells #[ZI ZQ kind, ZI ZQ rt, ZI ZQ rsp, ZI ZQ rsize, ZI ZQ 0, ZI ZQ onum, ZI ZQ osize, .bool oel, .bool ofl, .bool opr, .bool oect, ZI ZQ delay, .slice ra rn rc, .bool marked, ZI ZQ e0, ZI ZQ e1, ZI ZQ e2, .slice ea 0 ec, ZI ZQ err, ZI ZQ smooth] 93)).alloc (.cells #[ZI ZQ 0, ZI ZQ onum, ZI ZQ osize, .bool oel, .bool ofl, .bool opr, .bool oect] 28)) := ((Below.refl _ _).alloc (Nat.le_refl _) _).alloc (by simp) _
  refine ⟨HK.out.later ha, (Blk.new _ _ _).alloc _, ?_, ha⟩
  have := Blk.new (w.alloc (.cells #[ZI ZQ kind, ZI ZQ rt, ZI ZQ rsp, ZI ZQ rsize, ZI ZQ 0, ZI ZQ onum, ZI ZQ osize, .bool oel, .bool ofl, .bool opr, .bool oect, ZI ZQ delay, .slice ra rn rc, .bool marked, ZI ZQ e0, ZI ZQ e1, ZI ZQ e2, .slice ea 0 ec, ZI ZQ err, ZI ZQ smooth] 93)) 28 #[ZI ZQ 0, ZI ZQ onum, ZI ZQ osize, .bool oel, .bool ofl, .bool opr, .bool oect]
  simpa [outL] using this
 obtain ⟨W1, hW1⟩ : ∃ x, (w.alloc (.cells #[ZI ZQ kind, ZI ZQ rt, ZI ZQ rsp, ZI ZQ rsize, ZI ZQ 0, ZI ZQ onum, ZI ZQ osize, .bool oel, .bool ofl, .bool opr, .bool oect, ZI ZQ delay, .slice ra rn rc, .bool marked, ZI ZQ e0, ZI ZQ e1, ZI ZQ e2, .slice ea 0 ec, ZI ZQ err, ZI ZQ smooth] 93)).alloc (.cells #[ZI ZQ 0, ZI ZQ onum, ZI ZQ osize, .bool oel, .bool ofl, .bool opr, .bool oect] 28) = x := ⟨_, rfl⟩
 obtain ⟨R, hR⟩ : ∃ x, w.heap.size = x := ⟨_, rfl⟩
 rw [hW1, hR] at hs0
 rw [hW1, hR]
 have HS1 := hide hs0
 have k1 := hs0.kn.blk.cell 1
 have k18 := hs0.kn.blk.cell 18
 have r17 := hs0.row.cell 17
 have o0 := hs0.out.cell 0
 have o1 := hs0.out.cell 1
 have o2 := hs0.out.cell 2
 simp only [krC, outL, ZG, ZH, ZJ] at k1 k18 r17 o0 o1 o2
 clear hs0 hW1 hR q1 hK hkl
 go_quiet (first | (go_at_call 77; with_reducible exact quiet24 (HSP.out _)) | (go_at_call 65; with_reducible exact quiet24 (HIS.out _)))
 go_wp2_with fail
 go_ret
 exact ⟨rfl, below_drewN HS1.out.bl _⟩
set_option maxRecDepth 100000 in
set_option maxHeartbeats 8000000 in
theorem rsends_low (b base : Nat) (k : KN) (vL vA vR vP : Value) (r : RW) (w : World) (hK : KrAt w b base k vL vA vR vP) (hfl : ∀ p ∈ k.flying, okP p) (hfn : k.flying.length ≤ 1900) (hd : k.c.d ≤ 65527) (he : r.en = 0) (hsp : r.o.sp = 0) (hq : isN r.o.num = true ∧ r.o.num ≤ k.last 0) :
  Calls Try.prog 75 #[.pointer (some ⟨b, 0, none⟩), .agg (rwC r)] w fun e w' => e = .returned (ZI ZQ 4) ∧ Below w.heap.size w w' := by
 obtain ⟨kind, rt, rsp, rsize, ⟨osp, onum, osize, oel, ofl, opr, oect⟩, delay, ra, rn, rc, marked, e0, e1, e2, ea, en, ec, err, smooth⟩ := r
 simp only at he hsp hq
 subst he hsp
 have HK := hide hK
 have q1 := hK.blk.cell 1
 have hkl := hK.blk.lt
 simp only [krC, ZG, ZH, ZJ] at q1
 have HSP := hide (fun W => rspace_any 0 W)
 have HIS := hide (fun W => ris_any onum W)
 rw [show isSp 0 = true from rfl] at HSP
 obtain ⟨h1, h2⟩ := hq
 rw [h1] at HIS
 have d1 : decide (onum ≤ k.last 0) = true := decide_eq_true h2
 go_enter Try.func75, Try.ntmps75
 unfold rwC
 go_upto_region 2 with (fail)
 have hs0 : RnSt w ((w.alloc (.cells #[ZI ZQ kind, ZI ZQ rt, ZI ZQ rsp, ZI ZQ rsize, ZI ZQ 0, ZI ZQ onum, ZI ZQ osize, .bool oel, .bool ofl, .bool opr, .bool oect, ZI ZQ delay, .slice ra rn rc, .bool marked, ZI ZQ e0, ZI ZQ e1, ZI ZQ e2, .slice ea 0 ec, ZI ZQ err, ZI ZQ smooth] 93)).alloc (.cells #[ZI ZQ 0, ZI ZQ onum, ZI ZQ osize, .bool oel, .bool ofl, .bool opr, .bool oect] 28)) b base k vL vA vR vP w.heap.size (w.heap.size + 1) #[ZI ZQ kind, ZI ZQ rt, ZI ZQ rsp, ZI ZQ rsize, ZI ZQ 0, ZI ZQ onum, ZI ZQ osize, .bool oel, .bool ofl, .bool opr, .bool oect, ZI ZQ delay, .slice ra rn rc, .bool marked, ZI ZQ e0, ZI ZQ e1, ZI ZQ e2, .slice ea 0 ec, ZI ZQ err, ZI ZQ smooth] ⟨0, onum, osize, oel, ofl, opr, oect⟩ := by
  have ha : Below w.heap.size w ((w.alloc (.cells #[ZI ZQ kind, ZI ZQ rt, ZI ZQ rsp, ZI ZQ rsize, ZI ZQ 0, ZI ZQ onum, ZI ZQ osize, .bool oel, .bool ofl, .bool opr, .bool oect, ZI ZQ delay, .slice ra rn rc, .bool marked, ZI ZQ e0, ZI ZQ e1, ZI ZQ e2, .slice ea 0 ec, ZI ZQ err, ZI ZQ smooth] 93)).alloc (.cells #[ZI ZQ 0, ZI ZQ onum, ZI ZQ osize, .bool oel, .bool ofl, .bool opr, .bool oect] 28)) := ((Below.refl _ _).alloc (Nat.le_refl _) _).alloc (by simp) _
  refine ⟨HK.out.later ha, (Blk.new _ _ _).alloc _, ?_, ha⟩
  have := Blk.new (w.alloc (.cells #[ZI ZQ kind, ZI ZQ rt, ZI ZQ rsp, ZI ZQ rsize, ZI ZQ 0, ZI ZQ onum, ZI ZQ osize, .bool oel, .bool ofl, .bool opr, .bool oect, ZI ZQ delay, .slice ra rn rc, .bool marked, ZI ZQ e0, ZI ZQ e1, ZI ZQ e2, .slice ea 0 ec, ZI ZQ err, ZI ZQ smooth] 93)) 28 #[ZI ZQ 0, ZI ZQ onum, ZI ZQ osize, .bool oel, .bool ofl, .bool opr, .bool oect]
  simpa [outL] using this
 obtain ⟨W1, hW1⟩ : ∃ x, (w.alloc (.cells #[ZI ZQ kind, ZI ZQ rt, ZI ZQ rsp, ZI ZQ rsize, ZI ZQ 0, ZI ZQ onum, ZI ZQ osize, .bool oel, .bool ofl, .bool opr, .bool oect, ZI ZQ delay, .slice ra rn rc, .bool marked, ZI ZQ e0, ZI ZQ e1, ZI ZQ e2, .slice ea 0 ec, ZI ZQ err, ZI ZQ smooth] 93)).alloc (.cells #[ZI ZQ 0, ZI ZQ onum, ZI ZQ osize, .bool oel, .bool ofl, .bool opr, .bool oect] 28) = x := ⟨_, rfl⟩
 obtain ⟨R, hR⟩ : ∃ x, w.heap.size = x := ⟨_, rfl⟩
 rw [hW1, hR] at hs0
 rw [hW1, hR]
 have HS1 := hide hs0
 have k1 := hs0.kn.blk.cell 1
 have k18 := hs0.kn.blk.cell 18
 have r17 := hs0.row.cell 17
 have o0 := hs0.out.cell 0
 have o1 := hs0.out.cell 1
 have o2 := hs0.out.cell 2
 simp only [krC, outL, ZG, ZH, ZJ] at k1 k18 r17 o0 o1 o2
 clear hs0 hW1 hR q1 hK hkl
 go_quiet (first | (go_at_call 77; with_reducible exact quiet24 (HSP.out _)) | (go_at_call 65; with_reducible exact quiet24 (HIS.out _)))
 go_wp2_with fail
 go_ret
 exact ⟨rfl, below_drewN HS1.out.bl _⟩
set_option maxRecDepth 100000 in
set_option maxHeartbeats 8000000 in
theorem rsends_nosize (b base : Nat) (k : KN) (vL vA vR vP : Value) (r : RW) (w : World) (hK : KrAt w b base k vL vA vR vP) (hfl : ∀ p ∈ k.flying, okP p) (hfn : k.flying.length ≤ 1900) (hd : k.c.d ≤ 65527) (he : r.en = 0) (hsp : r.o.sp = 0) (hq : isN r.o.num = true ∧ k.last 0 < r.o.num ∧ r.o.size < 1) :
  Calls Try.prog 75 #[.pointer (some ⟨b, 0, none⟩), .agg (rwC r)] w fun e w' => e = .returned (ZI ZQ 4) ∧ Below w.heap.size w w' := by
 obtain ⟨kind, rt, rsp, rsize, ⟨osp, onum, osize, oel, ofl, opr, oect⟩, delay, ra, rn, rc, marked, e0, e1, e2, ea, en, ec, err, smooth⟩ := r
 simp only at he hsp hq
 subst he hsp
 have HK := hide hK
 have q1 := hK.blk.cell 1
 have hkl := hK.blk.lt
 simp only [krC, ZG, ZH, ZJ] at q1
 have HSP := hide (fun W => rspace_any 0 W)
 have HIS := hide (fun W => ris_any onum W)
 rw [show isSp 0 = true from rfl] at HSP
 obtain ⟨h1, h2, h3⟩ := hq
 rw [h1] at HIS
 have d1 : decide (onum ≤ k.last 0) = false := decide_eq_false (by omega)
 have d2 : decide (osize < 1) = true := decide_eq_true h3
 go_enter Try.func75, Try.ntmps75
 unfold rwC
 go_upto_region 2 with (fail)
 have hs0 : RnSt w ((w.alloc (.cells #[ZI ZQ kind, ZI ZQ rt, ZI ZQ rsp, ZI ZQ rsize, ZI ZQ 0, ZI ZQ onum, ZI ZQ osize, .bool oel, .bool ofl, .bool opr, .bool oect, ZI ZQ delay, .slice ra rn rc, .bool marked, ZI ZQ e0, ZI ZQ e1, ZI ZQ e2, .slice ea 0 ec, ZI ZQ err, ZI ZQ smooth] 93)).alloc (.cells #[ZI ZQ 0, ZI ZQ onum, ZI ZQ osize, .bool oel, .bool ofl, .bool opr, .bool oect] 28)) b base k vL vA vR vP w.heap.size (w.heap.size + 1) #[ZI ZQ kind, ZI ZQ rt, ZI ZQ rsp, ZI ZQ rsize, ZI ZQ 0, ZI ZQ onum, ZI ZQ osize, .bool oel, .bool ofl, .bool opr, .bool oect, ZI ZQ delay, .slice ra rn rc, .bool marked, ZI ZQ e0, ZI ZQ e1, ZI ZQ e2, .slice ea 0 ec, ZI ZQ err, ZI ZQ smooth] ⟨0, onum, osize, oel, ofl, opr, oect⟩ := by
  have ha : Below w.heap.size w ((w.alloc (.cells #[ZI ZQ kind, ZI ZQ rt, ZI ZQ rsp, ZI ZQ rsize, ZI ZQ 0, ZI ZQ onum, ZI ZQ osize, .bool oel, .bool ofl, .bool opr, .bool oect, ZI ZQ delay, .slice ra rn rc, .bool marked, ZI ZQ e0, ZI ZQ e1, ZI ZQ e2, .slice ea 0 ec, ZI ZQ err, ZI ZQ smooth] 93)).alloc (.cells #[ZI ZQ 0, ZI ZQ onum, ZI ZQ osize, .bool oel, .bool ofl, .bool opr, .bool oect] 28)) := ((Below.refl _ _).alloc (Nat.le_refl _) _).alloc (by simp) _
  refine ⟨HK.out.later ha, (Blk.new _ _ _).alloc _, ?_, ha⟩
  have := Blk.new (w.alloc (.cells #[ZI ZQ kind, ZI ZQ rt, ZI ZQ rsp, ZI ZQ rsize, ZI ZQ 0, ZI ZQ onum, ZI ZQ osize, .bool oel, .bool ofl, .bool opr, .bool oect, ZI ZQ delay, .slice ra rn rc, .bool marked, ZI ZQ e0, ZI ZQ e1, ZI ZQ e2, .slice ea 0 ec, ZI ZQ err, ZI ZQ smooth] 93)) 28 #[ZI ZQ 0, ZI ZQ onum, ZI ZQ osize, .bool oel, .bool ofl, .bool opr, .bool oect]
  simpa [outL] using this
 obtain ⟨W1, hW1⟩ : ∃ x, (w.alloc (.cells #[ZI ZQ kind, ZI ZQ rt, ZI ZQ rsp, ZI ZQ rsize, ZI ZQ 0, ZI ZQ onum, ZI ZQ osize, .bool oel, .bool ofl, .bool opr, .bool oect, ZI ZQ delay, .slice ra rn rc, .bool marked, ZI ZQ e0, ZI ZQ e1, ZI ZQ e2, .slice ea 0 ec, ZI ZQ err, ZI ZQ smooth] 93)).alloc (.cells #[ZI ZQ 0, ZI ZQ onum, ZI ZQ osize, .bool oel, .bool ofl, .bool opr, .bool oect] 28) = x := ⟨_, rfl⟩
 obtain ⟨R, hR⟩ : ∃ x, w.heap.size = x := ⟨_, rfl⟩
 rw [hW1, hR] at hs0
 rw [hW1, hR]
 have HS1 := hide hs0
 have k1 := hs0.kn.blk.cell 1
 have k18 := hs0.kn.blk.cell 18
 have r17 := hs0.row.cell 17
 have o0 := hs0.out.cell 0
 have o1 := hs0.out.cell 1
 have o2 := hs0.out.cell 2
 simp only [krC, outL, ZG, ZH, ZJ] at k1 k18 r17 o0 o1 o2
 clear hs0 hW1 hR q1 hK hkl
 go_quiet (first | (go_at_call 77; with_reducible exact quiet24 (HSP.out _)) | (go_at_call 65; with_reducible exact quiet24 (HIS.out _)))
 go_wp2_with fail
 go_ret
 exact ⟨rfl, below_drewN HS1.out.bl _⟩
set_option maxRecDepth 100000 in
set_option maxHeartbeats 8000000 in
theorem rsends_great (b base : Nat) (k : KN) (vL vA vR vP : Value) (r : RW) (w : World) (hK : KrAt w b base k vL vA vR vP) (hfl : ∀ p ∈ k.flying, okP p) (hfn : k.flying.length ≤ 1900) (hd : k.c.d ≤ 65527) (he : r.en = 0) (hsp : r.o.sp = 0) (hq : isN r.o.num = true ∧ k.last 0 < r.o.num ∧ 1 ≤ r.o.size ∧ k.c.d < r.o.size) :
  Calls Try.prog 75 #[.pointer (some ⟨b, 0, none⟩), .agg (rwC r)] w fun e w' => e = .returned (ZI ZQ 4) ∧ Below w.heap.size w w' := by
 obtain ⟨kind, rt, rsp, rsize, ⟨osp, onum, osize, oel, ofl, opr, oect⟩, delay, ra, rn, rc, marked, e0, e1, e2, ea, en, ec, err, smooth⟩ := r
 simp only at he hsp hq
 subst he hsp
 have HK := hide hK
 have q1 := hK.blk.cell 1
 have hkl := hK.blk.lt
 simp only [krC, ZG, ZH, ZJ] at q1
 have HSP := hide (fun W => rspace_any 0 W)
 have HIS := hide (fun W => ris_any onum W)
 rw [show isSp 0 = true from rfl] at HSP
 obtain ⟨h1, h2, h3, h4⟩ := hq
 rw [h1] at HIS
 have d1 : decide (onum ≤ k.last 0) = false := decide_eq_false (by omega)
 have d2 : decide (osize < 1) = false := decide_eq_false (by omega)
 have d3 : decide (k.c.d < osize) = true := decide_eq_true h4
 go_enter Try.func75, Try.ntmps75
 unfold rwC
 go_upto_region 2 with (fail)
 have hs0 : RnSt w ((w.alloc (.cells #[ZI ZQ kind, ZI ZQ rt, ZI ZQ rsp, ZI ZQ rsize, ZI ZQ 0, ZI ZQ onum, ZI ZQ osize, .bool oel, .bool ofl, .bool opr, .bool oect, ZI ZQ delay, .slice ra rn rc, .bool marked, ZI ZQ e0, ZI ZQ e1, ZI ZQ e2, .slice ea 0 ec, ZI ZQ err, ZI ZQ smooth] 93)).alloc (.cells #[ZI ZQ 0, ZI ZQ onum, ZI ZQ osize, .bool oel, .bool ofl, .bool opr, .bool oect] 28)) b base k vL vA vR vP w.heap.size (w.heap.size + 1) #[ZI ZQ kind, ZI ZQ rt, ZI ZQ rsp, ZI ZQ rsize, ZI ZQ 0, ZI ZQ onum, ZI ZQ osize, .bool oel, .bool ofl, .bool opr, .bool oect, ZI ZQ delay, .slice ra rn rc, .bool marked, ZI ZQ e0, ZI ZQ e1, ZI ZQ e2, .slice ea 0 ec, ZI ZQ err, ZI ZQ smooth] ⟨0, onum, osize, oel, ofl, opr, oect⟩ := by
  have ha : Below w.heap.size w ((w.alloc (.cells #[ZI ZQ kind, ZI ZQ rt, ZI ZQ rsp, ZI ZQ rsize, ZI ZQ 0, ZI ZQ onum, ZI ZQ osize, .bool oel, .bool ofl, .bool opr, .bool oect, ZI ZQ delay, .slice ra rn rc, .bool marked, ZI ZQ e0, ZI ZQ e1, ZI ZQ e2, .slice ea 0 ec, ZI ZQ err, ZI ZQ smooth] 93)).alloc (.cells #[ZI ZQ 0, ZI ZQ onum, ZI ZQ osize, .bool oel, .bool ofl, .bool opr, .bool oect] 28)) := ((Below.refl _ _).alloc (Nat.le_refl _) _).alloc (by simp) _
  refine ⟨HK.out.later ha, (Blk.new _ _ _).alloc _, ?_, ha⟩
  have := Blk.new (w.alloc (.cells #[ZI ZQ kind, ZI ZQ rt, ZI ZQ rsp, ZI ZQ rsize, ZI ZQ 0, ZI ZQ onum, ZI ZQ osize, .bool oel, .bool ofl, .bool opr, .bool oect, ZI ZQ delay, .slice ra rn rc, .bool marked, ZI ZQ e0, ZI ZQ e1, ZI ZQ e2, .slice ea 0 ec, ZI ZQ err, ZI ZQ smooth] 93)) 28 #[ZI ZQ 0, ZI ZQ onum, ZI ZQ osize, .bool oel, .bool ofl, .bool opr, .bool oect]
  simpa [outL] using this
 obtain ⟨W1, hW1⟩ : ∃ x, (w.alloc (.cells #[ZI ZQ kind, ZI ZQ rt, ZI ZQ rsp, ZI ZQ rsize, ZI ZQ 0, ZI ZQ onum, ZI ZQ osize, .bool oel, .bool ofl, .bool opr, .bool oect, ZI ZQ delay, .slice ra rn rc, .bool marked, ZI ZQ e0, ZI ZQ e1, ZI ZQ e2, .slice ea 0 ec, ZI ZQ err, ZI ZQ smooth] 93)).alloc (.cells #[ZI ZQ 0, ZI ZQ onum, ZI ZQ osize, .bool oel, .bool ofl, .bool opr, .bool oect] 28) = x := ⟨_, rfl⟩
 obtain ⟨R, hR⟩ : ∃ x, w.heap.size = x := ⟨_, rfl⟩
 rw [hW1, hR] at hs0
 rw [hW1, hR]
 have HS1 := hide hs0
 have k1 := hs0.kn.blk.cell 1
 have k18 := hs0.kn.blk.cell 18
 have r17 := hs0.row.cell 17
 have o0 := hs0.out.cell 0
 have o1 := hs0.out.cell 1
 have o2 := hs0.out.cell 2
 simp only [krC, outL, ZG, ZH, ZJ] at k1 k18 r17 o0 o1 o2
 clear hs0 hW1 hR q1 hK hkl
 go_quiet (first | (go_at_call 77; with_reducible exact quiet24 (HSP.out _)) | (go_at_call 65; with_reducible exact quiet24 (HIS.out _)))
 go_wp2_with fail
 go_ret
 exact ⟨rfl, below_drewN HS1.out.bl _⟩
end Go.Proofs.Ytidfngcclbhoaaa

namespace Go.Proofs.Ytidfngcclbhoaaa
open List renaming getElem?_toArray → ZG, getElem?_cons_zero → ZH, getElem?_cons_succ → ZJ
open Go.Value renaming int → ZI
open Go.IntKind renaming i64 → ZQ
set_option linter.unusedSimpArgs false
set_option linter.unusedVariables false
open Go.RowKit Go.Shelf
theorem out_info : (Try.prog.info? 28).map (fun i => (i.zero, i.size, i.bytes)) = some (some (.agg #[ZI ZQ 0, ZI ZQ 0, ZI ZQ 0, .bool false, .bool false, .bool false, .bool false]), 7, 32) := by kernel_rfl
theorem int_info : (Try.prog.info? 3).map (fun i => (i.zero, i.size, i.bytes)) = some (some (ZI ZQ 0), 1, 8) := by kernel_rfl
theorem two_info : (Try.prog.info? 127).map (fun i => (i.zero, i.size, i.bytes)) = some (some (.agg #[ZI ZQ 0, ZI ZQ 0]), 2, 16) := by kernel_rfl
theorem three_info : (Try.prog.info? 30).map (fun i => (i.zero, i.size, i.bytes)) = some (some (.agg #[ZI ZQ 0, ZI ZQ 0, ZI ZQ 0]), 3, 24) := by kernel_rfl
theorem own_old {w : World} {base e size n g : Nat} {v : Value} {xs : List Value} (h : w.ownsRow base e size v n xs) (hg : w.heap.size ≤ g) : some g ≠ v.ownBlock := by
 rcases h.2 with ⟨rfl, _⟩ | ⟨g', cap, cur, rfl, _, hh, _⟩
 ·simp [Value.ownBlock]
 ·intro he
  have : g = g' := by simpa [Value.ownBlock] using he
  subst this
  have := Blk.lt (w := w) hh
  omega
/-- What lies while a packet is noted: the two rows of what flies each by itself. -/
structure RaSt (w W : World) (b base : Nat) (k : KN) (fl fa : List PKT) (vL vA vR vP : Value) (R O : Nat) (rw_ : Array Value) (o : OUT) : Prop where
 blk : Blk W b 92 (krC k vL vA vR vP)
 l : W.ownsRow base 28 7 vL fl.length (fl.flatMap oL)
 a : W.ownsRow base 3 1 vA fa.length (fa.flatMap tL)
 r : W.ownsRow base 30 3 vR k.pieces.length (k.pieces.flatMap pieL)
 p : W.ownsRow base 127 2 vP k.paced.length (k.paced.flatMap pcdL)
 ge : base ≤ b
 row : Blk W R 93 rw_
 out : Blk W O 28 (outL o).toArray
 bl : FarR base w W
theorem RaSt.room {w W : World} {b base : Nat} {k : KN} {fl fa : List PKT} {vL vA vR vP : Value} {R O : Nat} {rw_ : Array Value} {o : OUT} (h : RaSt w W b base k fl fa vL vA vR vP R O rw_ o) : base ≤ W.heap.size := Nat.le_of_lt (Nat.lt_of_le_of_lt h.ge h.blk.lt)
theorem RaSt.later {w W : World} {b base : Nat} {k : KN} {fl fa : List PKT} {vL vA vR vP : Value} {R O : Nat} {rw_ : Array Value} {o : OUT} {W' : World} (h : RaSt w W b base k fl fa vL vA vR vP R O rw_ o) (hb : Below W.heap.size W W') : RaSt w W' b base k fl fa vL vA vR vP R O rw_ o :=
 ⟨(hb.block _ h.blk.lt).trans h.blk, own_below h.l hb, own_below h.a hb, own_below h.r hb, own_below h.p hb, h.ge, (hb.block _ h.row.lt).trans h.row, (hb.block _ h.out.lt).trans h.out, h.bl.later hb h.room⟩
theorem RaSt.drewN {w W : World} {b base : Nat} {k : KN} {fl fa : List PKT} {vL vA vR vP : Value} {R O : Nat} {rw_ : Array Value} {o : OUT} (h : RaSt w W b base k fl fa vL vA vR vP R O rw_ o) (n : Nat) : RaSt w (W.drewN n) b base k fl fa vL vA vR vP R O rw_ o := h.later (below_drewN (Below.refl _ _) n)
theorem RaSt.drew {w W : World} {b base : Nat} {k : KN} {fl fa : List PKT} {vL vA vR vP : Value} {R O : Nat} {rw_ : Array Value} {o : OUT} (h : RaSt w W b base k fl fa vL vA vR vP R O rw_ o) : RaSt w W.drew b base k fl fa vL vA vR vP R O rw_ o := h.drewN 1
theorem RaSt.put {w W : World} {b base : Nat} {k : KN} {fl fa : List PKT} {vL vA vR vP : Value} {R O : Nat} {rw_ : Array Value} {o : OUT} (h : RaSt w W b base k fl fa vL vA vR vP R O rw_ o) (i : Nat) (u : Value) (k' : KN) (hc : (krC k vL vA vR vP).setIfInBounds i u = krC k' vL vA vR vP) (hp : k'.pieces = k.pieces) (hd : k'.paced = k.paced) : RaSt w (W.setCell ⟨b, i, none⟩ u) b base k' fl fa vL vA vR vP R O rw_ o := by
 refine ⟨(h.blk.set i u).eq hc, own_far h.l (own_ne h.l h.blk (by decide)) _, own_far h.a (own_ne h.a h.blk (by decide)) _, ?_, ?_, h.ge, h.row.far (blk_ne h.row h.blk (by decide)) _, h.out.far (blk_ne h.out h.blk (by decide)) _, h.bl.set h.blk h.ge _ _⟩
 ·rw [hp]
  exact own_far h.r (own_ne h.r h.blk (by decide)) _
 ·rw [hd]
  exact own_far h.p (own_ne h.p h.blk (by decide)) _
theorem RaSt.kr {w W : World} {b base : Nat} {k : KN} {fl fa : List PKT} {vL vA vR vP : Value} {R O : Nat} {rw_ : Array Value} {o : OUT} (h : RaSt w W b base k fl fa vL vA vR vP R O rw_ o) (k' : KN) (hc : krC k vL vA vR vP = krC k' vL vA vR vP) (hl : k'.flying = fl) (ha : k'.flying = fa) (hp : k'.pieces = k.pieces) (hd : k'.paced = k.paced) : KrAt W b base k' vL vA vR vP :=
 ⟨h.blk.eq hc, by rw [hl]; exact h.l, by rw [ha]; exact h.a, by rw [hp]; exact h.r, by rw [hd]; exact h.p, h.ge⟩
theorem RaSt.pushL {w W : World} {b base : Nat} {k : KN} {fl fa : List PKT} {vL vA vR vP : Value} {R O : Nat} {rw_ : Array Value} {o : OUT} {w8 : World} {v8 : Value} {q : PKT} {X : Obj} (h : RaSt w W b base k fl fa vL vA vR vP R O rw_ o) (hne : some O ≠ vL.ownBlock) (hg : (W.alloc X).grownBy w8 vL.ownBlock)
  (hown : w8.ownsRow base 28 7 v8 (fl ++ [q]).length ((fl ++ [q]).flatMap oL)) : RaSt w (w8.setCell ⟨b, 16, none⟩ v8) b base k (fl ++ [q]) fa v8 vA vR vP R O rw_ o := by
 have hb8 := blk_grown (h.blk.alloc X) hg (own_ne h.l h.blk (by decide))
 have hr8 := blk_grown (h.row.alloc X) hg (own_ne h.l h.row (by decide))
 have ho8 := blk_grown (h.out.alloc X) hg hne
 have qa8 := own_kept (own_alloc h.a X) hg (own_two h.a h.l (by decide))
 have qr8 := own_kept (own_alloc h.r X) hg (own_two h.r h.l (by decide))
 have qp8 := own_kept (own_alloc h.p X) hg (own_two h.p h.l (by decide))
 refine ⟨(hb8.set 16 v8).eq rfl, own_far hown (own_ne hown hb8 (by decide)) _, own_far qa8 (own_ne qa8 hb8 (by decide)) _, own_far qr8 (own_ne qr8 hb8 (by decide)) _, own_far qp8 (own_ne qp8 hb8 (by decide)) _, h.ge, hr8.far (blk_ne hr8 hb8 (by decide)) _, ho8.far (blk_ne ho8 hb8 (by decide)) _, ?_⟩
 exact (FarR.grown (h.bl.later ((Below.refl _ _).alloc (Nat.le_refl _) X) h.room) (own_alloc h.l X) (.inl rfl) hg (by have := h.room; simp; omega)).set hb8 h.ge _ _
theorem RaSt.pushA {w W : World} {b base : Nat} {k : KN} {fl fa : List PKT} {vL vA vR vP : Value} {R O : Nat} {rw_ : Array Value} {o : OUT} {w8 : World} {v8 : Value} {q : PKT} {X : Obj} (h : RaSt w W b base k fl fa vL vA vR vP R O rw_ o) (hg : (W.alloc X).grownBy w8 vA.ownBlock)
  (hown : w8.ownsRow base 3 1 v8 (fa ++ [q]).length ((fa ++ [q]).flatMap tL)) : RaSt w (w8.setCell ⟨b, 17, none⟩ v8) b base k fl (fa ++ [q]) vL v8 vR vP R O rw_ o := by
 have hb8 := blk_grown (h.blk.alloc X) hg (own_ne h.a h.blk (by decide))
 have hr8 := blk_grown (h.row.alloc X) hg (own_ne h.a h.row (by decide))
 have ho8 := blk_grown (h.out.alloc X) hg (own_ne h.a h.out (by decide))
 have ql8 := own_kept (own_alloc h.l X) hg (own_two h.l h.a (by decide))
 have qr8 := own_kept (own_alloc h.r X) hg (own_two h.r h.a (by decide))
 have qp8 := own_kept (own_alloc h.p X) hg (own_two h.p h.a (by decide))
 refine ⟨(hb8.set 17 v8).eq rfl, own_far ql8 (own_ne ql8 hb8 (by decide)) _, own_far hown (own_ne hown hb8 (by decide)) _, own_far qr8 (own_ne qr8 hb8 (by decide)) _, own_far qp8 (own_ne qp8 hb8 (by decide)) _, h.ge, hr8.far (blk_ne hr8 hb8 (by decide)) _, ho8.far (blk_ne ho8 hb8 (by decide)) _, ?_⟩
 exact (FarR.grown (h.bl.later ((Below.refl _ _).alloc (Nat.le_refl _) X) h.room) (own_alloc h.a X) (.inr (.inl rfl)) hg (by have := h.room; simp; omega)).set hb8 h.ge _ _
theorem RaSt.pushP {w W : World} {b base : Nat} {k : KN} {fl fa : List PKT} {vL vA vR vP : Value} {R O : Nat} {rw_ : Array Value} {o : OUT} {w8 : World} {v8 : Value} {t size : Int} {X : Obj} (h : RaSt w W b base k fl fa vL vA vR vP R O rw_ o) (hg : (W.alloc X).grownBy w8 vP.ownBlock)
  (hown : w8.ownsRow base 127 2 v8 (k.paced ++ [(⟨t, size⟩ : PCD)]).length ((k.paced ++ [(⟨t, size⟩ : PCD)]).flatMap pcdL)) : RaSt w (w8.setCell ⟨b, 29, none⟩ v8) b base (pacedK k t size) fl fa vL vA vR v8 R O rw_ o := by
 have hb8 := blk_grown (h.blk.alloc X) hg (own_ne h.p h.blk (by decide))
 have hr8 := blk_grown (h.row.alloc X) hg (own_ne h.p h.row (by decide))
 have ho8 := blk_grown (h.out.alloc X) hg (own_ne h.p h.out (by decide))
 have ql8 := own_kept (own_alloc h.l X) hg (own_two h.l h.p (by decide))
 have qa8 := own_kept (own_alloc h.a X) hg (own_two h.a h.p (by decide))
 have qr8 := own_kept (own_alloc h.r X) hg (own_two h.r h.p (by decide))
 refine ⟨(hb8.set 29 v8).eq rfl, own_far ql8 (own_ne ql8 hb8 (by decide)) _, own_far qa8 (own_ne qa8 hb8 (by decide)) _, own_far qr8 (own_ne qr8 hb8 (by decide)) _, own_far hown (own_ne hown hb8 (by decide)) _, h.ge, hr8.far (blk_ne hr8 hb8 (by decide)) _, ho8.far (blk_ne ho8 hb8 (by decide)) _, ?_⟩
 exact (FarR.grown (h.bl.later ((Below.refl _ _).alloc (Nat.le_refl _) X) h.room) (own_alloc h.p X) (.inr (.inr (.inr rfl))) hg (by have := h.room; simp; omega)).set hb8 h.ge _ _
end Go.Proofs.Ytidfngcclbhoaaa

namespace Go.Proofs.Ytidfngcclbhoaaa
open List renaming getElem?_toArray → ZG, getElem?_cons_zero → ZH, getElem?_cons_succ → ZJ
open Go.Value renaming int → ZI
open Go.IntKind renaming i64 → ZQ
set_option linter.unusedSimpArgs false
set_option linter.unusedVariables false
open Go.RowKit Go.Shelf
/-- What lies while the document does a row. -/
structure RdSt (w W : World) (b base : Nat) (k : KN) (vL vA vR vP : Value) (R : Nat) (r : RW) (es : List EVJ) (rs : List RGJ) : Prop where
 kn : KrAt W b base k vL vA vR vP
 row : Blk W R 93 (rwC r)
 ev0 : LieAt evL 4 w base r.ea es
 rg0 : LieAt rgL 2 w base r.ra rs
 bl : FarR base w W
theorem RdSt.room {w W : World} {b base : Nat} {k : KN} {vL vA vR vP : Value} {R : Nat} {r : RW} {es : List EVJ} {rs : List RGJ} (h : RdSt w W b base k vL vA vR vP R r es rs) : base ≤ W.heap.size := Nat.le_of_lt (Nat.lt_of_le_of_lt h.kn.ge h.kn.blk.lt)
theorem RdSt.ev {w W : World} {b base : Nat} {k : KN} {vL vA vR vP : Value} {R : Nat} {r : RW} {es : List EVJ} {rs : List RGJ} (h : RdSt w W b base k vL vA vR vP R r es rs) : LieAt evL 4 W base r.ea es := h.ev0.later h.bl.bl
theorem RdSt.rg {w W : World} {b base : Nat} {k : KN} {vL vA vR vP : Value} {R : Nat} {r : RW} {es : List EVJ} {rs : List RGJ} (h : RdSt w W b base k vL vA vR vP R r es rs) : LieAt rgL 2 W base r.ra rs := h.rg0.later h.bl.bl
theorem RdSt.far {w W : World} {b base : Nat} {k : KN} {vL vA vR vP : Value} {R : Nat} {r : RW} {es : List EVJ} {rs : List RGJ} {W' : World} {k' : KN} {vL' vA' vR' vP' : Value} (h : RdSt w W b base k vL vA vR vP R r es rs) (hf : FarR base W W') (hk : KrAt W' b base k' vL' vA' vR' vP') : RdSt w W' b base k' vL' vA' vR' vP' R r es rs :=
 ⟨hk, hf.kept h.row (by decide) (by decide) (by decide) (by decide) (by decide), h.ev0, h.rg0, h.bl.trans hf⟩
theorem RdSt.later {w W : World} {b base : Nat} {k : KN} {vL vA vR vP : Value} {R : Nat} {r : RW} {es : List EVJ} {rs : List RGJ} {W' : World} (h : RdSt w W b base k vL vA vR vP R r es rs) (hb : Below W.heap.size W W') : RdSt w W' b base k vL vA vR vP R r es rs := h.far (FarR.of_below hb h.room) (h.kn.later hb)
theorem RdSt.drewN {w W : World} {b base : Nat} {k : KN} {vL vA vR vP : Value} {R : Nat} {r : RW} {es : List EVJ} {rs : List RGJ} (h : RdSt w W b base k vL vA vR vP R r es rs) (n : Nat) : RdSt w (W.drewN n) b base k vL vA vR vP R r es rs := h.later (below_drewN (Below.refl _ _) n)
theorem RdSt.drew {w W : World} {b base : Nat} {k : KN} {vL vA vR vP : Value} {R : Nat} {r : RW} {es : List EVJ} {rs : List RGJ} (h : RdSt w W b base k vL vA vR vP R r es rs) : RdSt w W.drew b base k vL vA vR vP R r es rs := h.drewN 1
theorem RdSt.put {w W : World} {b base : Nat} {k : KN} {vL vA vR vP : Value} {R : Nat} {r : RW} {es : List EVJ} {rs : List RGJ} (h : RdSt w W b base k vL vA vR vP R r es rs) (i : Nat) (u : Value) (k' : KN) (hc : (krC k vL vA vR vP).setIfInBounds i u = krC k' vL vA vR vP)
  (hf : k'.flying = k.flying) (hp : k'.pieces = k.pieces) (hd : k'.paced = k.paced) : RdSt w (W.setCell ⟨b, i, none⟩ u) b base k' vL vA vR vP R r es rs :=
 h.far (FarR.refl.set h.kn.blk h.kn.ge _ _) (h.kn.put i u k' hc hf hp hd)
theorem RdSt.pushR {w W : World} {b base : Nat} {k : KN} {vL vA vR vP : Value} {R : Nat} {r : RW} {es : List EVJ} {rs : List RGJ} {w8 : World} {v8 : Value} {q : PIE} {X : Obj} (h : RdSt w W b base k vL vA vR vP R r es rs) (hg : (W.alloc X).grownBy w8 vR.ownBlock)
  (hown : w8.ownsRow base 30 3 v8 (k.pieces ++ [q]).length ((k.pieces ++ [q]).flatMap pieL)) : RdSt w (w8.setCell ⟨b, 28, none⟩ v8) b base { k with pieces := k.pieces ++ [q] } vL vA v8 vP R r es rs := by
 have hb8 := blk_grown (h.kn.blk.alloc X) hg (own_ne h.kn.r h.kn.blk (by decide))
 have ql := own_kept (own_alloc h.kn.l X) hg (own_two h.kn.l h.kn.r (by decide))
 have qa := own_kept (own_alloc h.kn.a X) hg (own_two h.kn.a h.kn.r (by decide))
 have qp := own_kept (own_alloc h.kn.p X) hg (own_two h.kn.p h.kn.r (by decide))
 have hr8 := blk_grown (h.row.alloc X) hg (own_ne h.kn.r h.row (by decide))
 refine ⟨⟨(hb8.set 28 v8).eq rfl, own_far ql (own_ne ql hb8 (by decide)) _, own_far qa (own_ne qa hb8 (by decide)) _, own_far hown (own_ne hown hb8 (by decide)) _, own_far qp (own_ne qp hb8 (by decide)) _, h.kn.ge⟩, hr8.far (blk_ne hr8 hb8 (by decide)) _, h.ev0, h.rg0, ?_⟩
 exact (FarR.grown (h.bl.later ((Below.refl _ _).alloc (Nat.le_refl _) X) h.room) (own_alloc h.kn.r X) (.inr (.inr (.inl rfl))) hg (by have := h.room; simp; omega)).set hb8 h.kn.ge _ _
theorem ev_drop {r : RW} {rs : List RGJ} {k : KN} {es : List EVJ} {i : Nat} {e : EVJ} (h : es[i]? = some e) : eventsP r rs k (es.drop i) = match eventP k r rs e with
  | .ok k' => eventsP r rs k' (es.drop (i + 1))
  | .error n => .error n := by
 have hi : i < es.length := (List.getElem?_eq_some_iff.1 h).1
 rw [List.drop_eq_getElem_cons hi]
 rw [List.getElem?_eq_getElem hi] at h
 rw [Option.some.inj h]
 rfl
section
variable {P : Program} {w : World} {ops : Array Oper}
theorem wpStill_load_row {Q : Act → Prop} {a : Act} {o : Oper} {rest : List Oper} (hgd : o.guard = none) (ty : TypeId) (x : Operand) (ho : o.op = .load ty x)
  (g : Nat) (hx : a.eval x = .pointer (some ⟨g, 0, none⟩)) (t : TypeId) (cs : Array Value) (fr : Nat × Nat) (d : TypeDesc) (hg : w.heap[g]? = some (.cells cs t fr))
  (hu : P.underlying ty = some d) (hd : (match d with | .struct _ | .array _ _ => true | _ => false) = true) (hi : (P.info? ty).map (·.size) = some cs.size)
  (h : wpStill P ops w Q rest (a.put o.dst (.agg cs))) : wpStill P ops w Q (o :: rest) a := by
 refine wpStill_step (fun K hK => ?_)
 rw [if_pos (by simp [Region.wanted, hgd])]
 unfold Oper.still execOp
 simp only [ho, hx, Instr.loadAt, Instr.sureAddr, Sem.run_bind, Sem.run_pure, Result.andThen_ok, run_loadVar_row w g t ty cs fr d hg hu hd hi]
 exact ⟨rfl, hK _ h⟩
end
theorem event_pos {k : KN} {r : RW} {rs : List RGJ} {e : EVJ} {n : Int} (h : eventP k r rs e = .error n) : 0 < n := by
 unfold eventP at h
 repeat' split at h
 all_goals first | (cases h; done) | (injection h with h; subst h; omega)
end Go.Proofs.Ytidfngcclbhoaaa
