/-
 The document: sends: 5, 6, 7: 3 texts in one (JrSendsW, JrSendsP, JrSendsO).
-/
import Derived.Test.YtidfngcclbhoaaaMjRefB
import Derived.StillTail
import Derived.Deep.RegionHeld3
namespace Go.Proofs.Ytidfngcclbhoaaa
open List renaming getElem?_toArray → ZG, getElem?_cons_zero → ZH, getElem?_cons_succ → ZJ
open Go.Value renaming int → ZI
open Go.IntKind renaming i64 → ZQ
set_option linter.unusedSimpArgs false
set_option linter.unusedVariables false
open Go.RowKit Go.Shelf
theorem quiet25 {P : Program} {f : FuncId} {args : Array Value} {w : World} {m n : Nat} {v : Value}
  (h : Calls P f args (w.drewN (m + n)) fun e w' => e = .returned v ∧ w.drewN (m + n) = w') : Calls P f args (w.drewN (m + n)) fun e w'' => e = .returned v ∧ ∃ x, w'' = w.drewN (m + x) :=
 h.mono fun _ _ ⟨he, hm⟩ => ⟨he, n, hm.symm⟩
theorem KrAt.drewN {w : World} {b base : Nat} {k : KN} {vL vA vR vP : Value} (h : KrAt w b base k vL vA vR vP) (n : Nat) : KrAt (w.drewN n) b base k vL vA vR vP := h.later (below_drewN (Below.refl _ _) n)
set_option maxRecDepth 100000 in
set_option maxHeartbeats 8000000 in
theorem rsends_wide (b base : Nat) (k : KN) (vL vA vR vP : Value) (r : RW) (w : World) (hK : KrAt w b base k vL vA vR vP) (hfl : ∀ p ∈ k.flying, okP p) (hfn : k.flying.length ≤ 1900) (hd : k.c.d ≤ 65527) (he : r.en = 0) (hsp : r.o.sp = 0) (hnum : isN r.o.num = true) (hlast : k.last 0 < r.o.num) (hsz : 1 ≤ r.o.size ∧ r.o.size ≤ k.c.d) (hpl : r.o.fl = true) (hpr : r.o.pr = false) (hw : k.window < flightP k.flying + r.o.size) :
  Calls Try.prog 75 #[.pointer (some ⟨b, 0, none⟩), .agg (rwC r)] w fun e w' => e = .returned (ZI ZQ 5) ∧ Below w.heap.size w w' := by
 obtain ⟨kind, rt, rsp, rsize, ⟨osp, onum, osize, oel, ofl, opr, oect⟩, delay, ra, rn, rc, marked, e0, e1, e2, ea, en, ec, err, smooth⟩ := r
 simp only at he hsp hnum hlast hsz hpl hpr hw
 subst he hsp hpl hpr
 obtain ⟨z0, z1⟩ := hsz
 have HK := hide hK
 have q1 := hK.blk.cell 1
 have hkl := hK.blk.lt
 simp only [krC, ZG, ZH, ZJ] at q1
 have HSP := hide (fun W => rspace_any 0 W)
 have HIS := hide (fun W => ris_any onum W)
 rw [show isSp 0 = true from rfl] at HSP
 rw [show isN onum = true from hnum] at HIS
 have d1 : decide (onum ≤ k.last 0) = false := decide_eq_false (by omega)
 have d2 : decide (osize < 1) = false := decide_eq_false (by omega)
 have d3 : decide (k.c.d < osize) = false := decide_eq_false (by omega)
 obtain ⟨fl, hflq⟩ : ∃ x, flightP k.flying = x := ⟨_, rfl⟩
 have HFL := hide (fun W h => rflight_any b base k vL vA vR vP W h hfl (by omega))
 have hfb := flightP_bd k.flying hfl
 rw [hflq] at HFL hw hfb
 have hdec : decide (k.window < fl + osize) = true := decide_eq_true hw
 have hwf : IntKind.i64.wrap (fl + osize) = fl + osize := IntWalk.i64_in _ ⟨by omega, by omega⟩
 go_enter Try.func75, Try.ntmps75
 unfold rwC
 go_upto_region 2 with (fail)
 have hs0 : RnSt w ((w.alloc (.cells #[ZI ZQ kind, ZI ZQ rt, ZI ZQ rsp, ZI ZQ rsize, ZI ZQ 0, ZI ZQ onum, ZI ZQ osize, .bool oel, .bool true, .bool false, .bool oect, ZI ZQ delay, .slice ra rn rc, .bool marked, ZI ZQ e0, ZI ZQ e1, ZI ZQ e2, .slice ea 0 ec, ZI ZQ err, ZI ZQ smooth] 93)).alloc (.cells #[ZI ZQ 0, ZI ZQ onum, ZI ZQ osize, .bool oel, .bool true, .bool false, .bool oect] 28)) b base k vL vA vR vP w.heap.size (w.heap.size + 1) #[ZI ZQ kind, ZI ZQ rt, ZI ZQ rsp, ZI ZQ rsize, ZI ZQ 0, ZI ZQ onum, ZI ZQ osize, .bool oel, .bool true, .bool false, .bool oect, ZI ZQ delay, .slice ra rn rc, .bool marked, ZI ZQ e0, ZI ZQ e1, ZI ZQ e2, .slice ea 0 ec, ZI ZQ err, ZI ZQ smooth] ⟨0, onum, osize, oel, true, false, oect⟩ := by
  have ha : Below w.heap.size w ((w.alloc (.cells #[ZI ZQ kind, ZI ZQ rt, ZI ZQ rsp, ZI ZQ rsize, ZI ZQ 0, ZI ZQ onum, ZI ZQ osize, .bool oel, .bool true, .bool false, .bool oect, ZI ZQ delay, .slice ra rn rc, .bool marked, ZI ZQ e0, ZI ZQ e1, ZI ZQ e2, .slice ea 0 ec, ZI ZQ err, ZI ZQ smooth] 93)).alloc (.cells #[ZI ZQ 0, ZI ZQ onum, ZI ZQ osize, .bool oel, .bool true, .bool false, .bool oect] 28)) := ((Below.refl _ _).alloc (Nat.le_refl _) _).alloc (by simp) _
  refine ⟨HK.out.later ha, (Blk.new _ _ _).alloc _, ?_, ha⟩
  have := Blk.new (w.alloc (.cells #[ZI ZQ kind, ZI ZQ rt, ZI ZQ rsp, ZI ZQ rsize, ZI ZQ 0, ZI ZQ onum, ZI ZQ osize, .bool oel, .bool true, .bool false, .bool oect, ZI ZQ delay, .slice ra rn rc, .bool marked, ZI ZQ e0, ZI ZQ e1, ZI ZQ e2, .slice ea 0 ec, ZI ZQ err, ZI ZQ smooth] 93)) 28 #[ZI ZQ 0, ZI ZQ onum, ZI ZQ osize, .bool oel, .bool true, .bool false, .bool oect]
  simpa [outL] using this
 obtain ⟨W1, hW1⟩ : ∃ x, (w.alloc (.cells #[ZI ZQ kind, ZI ZQ rt, ZI ZQ rsp, ZI ZQ rsize, ZI ZQ 0, ZI ZQ onum, ZI ZQ osize, .bool oel, .bool true, .bool false, .bool oect, ZI ZQ delay, .slice ra rn rc, .bool marked, ZI ZQ e0, ZI ZQ e1, ZI ZQ e2, .slice ea 0 ec, ZI ZQ err, ZI ZQ smooth] 93)).alloc (.cells #[ZI ZQ 0, ZI ZQ onum, ZI ZQ osize, .bool oel, .bool true, .bool false, .bool oect] 28) = x := ⟨_, rfl⟩
 obtain ⟨R, hR⟩ : ∃ x, w.heap.size = x := ⟨_, rfl⟩
 rw [hW1, hR] at hs0
 rw [hW1, hR]
 have HS1 := hide hs0
 have k1 := hs0.kn.blk.cell 1
 have k18 := hs0.kn.blk.cell 18
 have r17 := hs0.row.cell 17
 have o0 := hs0.out.cell 0
 have o1 := hs0.out.cell 1
 have o2 := hs0.out.cell 2
 simp only [krC, outL, ZG, ZH, ZJ] at k1 k18 r17 o0 o1 o2
 clear hs0 hW1 hR q1 hK hkl
 go_quiet (first | (go_at_call 77; with_reducible exact quiet24 (HSP.out _)) | (go_at_call 65; with_reducible exact quiet24 (HIS.out _)))
 have hsn := HS1.out.drewN nq
 obtain ⟨W2, hWn⟩ : ∃ x, W1.drewN nq = x := ⟨_, rfl⟩
 rw [hWn] at hsn
 try rw [hWn]
 have HS2 := hide hsn
 clear hWn hsn HS1
 clear k1 k18 r17 o0 o1 o2
 have o2 := HS2.out.out.cell 2
 have o4 := HS2.out.out.cell 4
 have o5 := HS2.out.out.cell 5
 have o0 := HS2.out.out.cell 0
 have k11 := HS2.out.kn.blk.cell 11
 have k12 := HS2.out.kn.blk.cell 12
 have k13 := HS2.out.kn.blk.cell 13
 have k14 := HS2.out.kn.blk.cell 14
 have k24 := HS2.out.kn.blk.cell 24
 have k27 := HS2.out.kn.blk.cell 27
 simp only [krC, outL, ZG, ZH, ZJ, outL, outL, outL] at o0 o2 o4 o5 k11 k12 k13 k14 k24 k27
 go_wp2_with fail
 go_quiet (first | (go_at_call 85; with_reducible exact quiet24 (HFL.out _ (HS2.out.kn.drewN _))))
 go_wp2_with fail
 go_ret
 first | exact ⟨rfl, below_drewN HS2.out.bl _⟩ | exact ⟨rfl, below_drewN HS2.out.bl _⟩
end Go.Proofs.Ytidfngcclbhoaaa

namespace Go.Proofs.Ytidfngcclbhoaaa
open List renaming getElem?_toArray → ZG, getElem?_cons_zero → ZH, getElem?_cons_succ → ZJ
open Go.Value renaming int → ZI
open Go.IntKind renaming i64 → ZQ
set_option linter.unusedSimpArgs false
set_option linter.unusedVariables false
open Go.RowKit Go.Shelf
set_option maxRecDepth 100000 in
set_option maxHeartbeats 8000000 in
theorem rsends_noprobe (b base : Nat) (k : KN) (vL vA vR vP : Value) (r : RW) (w : World) (hK : KrAt w b base k vL vA vR vP) (hfl : ∀ p ∈ k.flying, okP p) (hfn : k.flying.length ≤ 1900) (hd : k.c.d ≤ 65527) (he : r.en = 0) (hsp : r.o.sp = 0) (hnum : isN r.o.num = true) (hlast : k.last 0 < r.o.num) (hsz : 1 ≤ r.o.size ∧ r.o.size ≤ k.c.d) (hpl : r.o.fl = true) (hpr : r.o.pr = true) (hw : k.own 0 = 0) :
  Calls Try.prog 75 #[.pointer (some ⟨b, 0, none⟩), .agg (rwC r)] w fun e w' => e = .returned (ZI ZQ 6) ∧ Below w.heap.size w w' := by
 obtain ⟨kind, rt, rsp, rsize, ⟨osp, onum, osize, oel, ofl, opr, oect⟩, delay, ra, rn, rc, marked, e0, e1, e2, ea, en, ec, err, smooth⟩ := r
 simp only at he hsp hnum hlast hsz hpl hpr 
 subst he hsp hpl hpr
 obtain ⟨z0, z1⟩ := hsz
 have HK := hide hK
 have q1 := hK.blk.cell 1
 have hkl := hK.blk.lt
 simp only [krC, ZG, ZH, ZJ] at q1
 have HSP := hide (fun W => rspace_any 0 W)
 have HIS := hide (fun W => ris_any onum W)
 rw [show isSp 0 = true from rfl] at HSP
 rw [show isN onum = true from hnum] at HIS
 have d1 : decide (onum ≤ k.last 0) = false := decide_eq_false (by omega)
 have d2 : decide (osize < 1) = false := decide_eq_false (by omega)
 have d3 : decide (k.c.d < osize) = false := decide_eq_false (by omega)
 go_enter Try.func75, Try.ntmps75
 unfold rwC
 go_upto_region 2 with (fail)
 have hs0 : RnSt w ((w.alloc (.cells #[ZI ZQ kind, ZI ZQ rt, ZI ZQ rsp, ZI ZQ rsize, ZI ZQ 0, ZI ZQ onum, ZI ZQ osize, .bool oel, .bool true, .bool true, .bool oect, ZI ZQ delay, .slice ra rn rc, .bool marked, ZI ZQ e0, ZI ZQ e1, ZI ZQ e2, .slice ea 0 ec, ZI ZQ err, ZI ZQ smooth] 93)).alloc (.cells #[ZI ZQ 0, ZI ZQ onum, ZI ZQ osize, .bool oel, .bool true, .bool true, .bool oect] 28)) b base k vL vA vR vP w.heap.size (w.heap.size + 1) #[ZI ZQ kind, ZI ZQ rt, ZI ZQ rsp, ZI ZQ rsize, ZI ZQ 0, ZI ZQ onum, ZI ZQ osize, .bool oel, .bool true, .bool true, .bool oect, ZI ZQ delay, .slice ra rn rc, .bool marked, ZI ZQ e0, ZI ZQ e1, ZI ZQ e2, .slice ea 0 ec, ZI ZQ err, ZI ZQ smooth] ⟨0, onum, osize, oel, true, true, oect⟩ := by
  have ha : Below w.heap.size w ((w.alloc (.cells #[ZI ZQ kind, ZI ZQ rt, ZI ZQ rsp, ZI ZQ rsize, ZI ZQ 0, ZI ZQ onum, ZI ZQ osize, .bool oel, .bool true, .bool true, .bool oect, ZI ZQ delay, .slice ra rn rc, .bool marked, ZI ZQ e0, ZI ZQ e1, ZI ZQ e2, .slice ea 0 ec, ZI ZQ err, ZI ZQ smooth] 93)).alloc (.cells #[ZI ZQ 0, ZI ZQ onum, ZI ZQ osize, .bool oel, .bool true, .bool true, .bool oect] 28)) := ((Below.refl _ _).alloc (Nat.le_refl _) _).alloc (by simp) _
  refine ⟨HK.out.later ha, (Blk.new _ _ _).alloc _, ?_, ha⟩
  have := Blk.new (w.alloc (.cells #[ZI ZQ kind, ZI ZQ rt, ZI ZQ rsp, ZI ZQ rsize, ZI ZQ 0, ZI ZQ onum, ZI ZQ osize, .bool oel, .bool true, .bool true, .bool oect, ZI ZQ delay, .slice ra rn rc, .bool marked, ZI ZQ e0, ZI ZQ e1, ZI ZQ e2, .slice ea 0 ec, ZI ZQ err, ZI ZQ smooth] 93)) 28 #[ZI ZQ 0, ZI ZQ onum, ZI ZQ osize, .bool oel, .bool true, .bool true, .bool oect]
  simpa [outL] using this
 obtain ⟨W1, hW1⟩ : ∃ x, (w.alloc (.cells #[ZI ZQ kind, ZI ZQ rt, ZI ZQ rsp, ZI ZQ rsize, ZI ZQ 0, ZI ZQ onum, ZI ZQ osize, .bool oel, .bool true, .bool true, .bool oect, ZI ZQ delay, .slice ra rn rc, .bool marked, ZI ZQ e0, ZI ZQ e1, ZI ZQ e2, .slice ea 0 ec, ZI ZQ err, ZI ZQ smooth] 93)).alloc (.cells #[ZI ZQ 0, ZI ZQ onum, ZI ZQ osize, .bool oel, .bool true, .bool true, .bool oect] 28) = x := ⟨_, rfl⟩
 obtain ⟨R, hR⟩ : ∃ x, w.heap.size = x := ⟨_, rfl⟩
 rw [hW1, hR] at hs0
 rw [hW1, hR]
 have HS1 := hide hs0
 have k1 := hs0.kn.blk.cell 1
 have k18 := hs0.kn.blk.cell 18
 have r17 := hs0.row.cell 17
 have o0 := hs0.out.cell 0
 have o1 := hs0.out.cell 1
 have o2 := hs0.out.cell 2
 simp only [krC, outL, ZG, ZH, ZJ] at k1 k18 r17 o0 o1 o2
 clear hs0 hW1 hR q1 hK hkl
 go_quiet (first | (go_at_call 77; with_reducible exact quiet24 (HSP.out _)) | (go_at_call 65; with_reducible exact quiet24 (HIS.out _)))
 have hsn := HS1.out.drewN nq
 obtain ⟨W2, hWn⟩ : ∃ x, W1.drewN nq = x := ⟨_, rfl⟩
 rw [hWn] at hsn
 try rw [hWn]
 have HS2 := hide hsn
 clear hWn hsn HS1
 clear k1 k18 r17 o0 o1 o2
 have o2 := HS2.out.out.cell 2
 have o4 := HS2.out.out.cell 4
 have o5 := HS2.out.out.cell 5
 have o0 := HS2.out.out.cell 0
 have k11 := HS2.out.kn.blk.cell 11
 have k12 := HS2.out.kn.blk.cell 12
 have k13 := HS2.out.kn.blk.cell 13
 have k14 := HS2.out.kn.blk.cell 14
 have k24 := HS2.out.kn.blk.cell 24
 have k27 := HS2.out.kn.blk.cell 27
 simp only [krC, outL, ZG, ZH, ZJ, outL, outL, hw] at o0 o2 o4 o5 k11 k12 k13 k14 k24 k27
 go_wp2_with fail
 go_quiet (fail)
 go_wp2_with fail
 go_quiet (fail)
 go_wp2_with fail
 go_ret
 first | exact ⟨rfl, below_drewN HS2.out.bl _⟩ | exact ⟨rfl, below_drewN (below_drewN HS2.out.bl _) _⟩
end Go.Proofs.Ytidfngcclbhoaaa

namespace Go.Proofs.Ytidfngcclbhoaaa
open List renaming getElem?_toArray → ZG, getElem?_cons_zero → ZH, getElem?_cons_succ → ZJ
open Go.Value renaming int → ZI
open Go.IntKind renaming i64 → ZQ
set_option linter.unusedSimpArgs false
set_option linter.unusedVariables false
open Go.RowKit Go.Shelf
set_option maxRecDepth 100000 in
set_option maxHeartbeats 8000000 in
theorem rsends_over (b base : Nat) (k : KN) (vL vA vR vP : Value) (r : RW) (w : World) (hK : KrAt w b base k vL vA vR vP) (hfl : ∀ p ∈ k.flying, okP p) (hfn : k.flying.length ≤ 1900) (hd : k.c.d ≤ 65527) (he : r.en = 0) (hsp : r.o.sp = 0) (hnum : isN r.o.num = true) (hlast : k.last 0 < r.o.num) (hsz : 1 ≤ r.o.size ∧ r.o.size ≤ k.c.d) (hpl : r.o.fl = true) (hpr : r.o.pr = false) (hw : flightP k.flying + r.o.size ≤ k.window) (hv : k.valid = false) (hgot : 0 ≤ k.got ∧ k.got ≤ 1000000) (hacc : decide (addI k.sent r.o.size ≤ numI (3 * k.got)) = false) :
  Calls Try.prog 75 #[.pointer (some ⟨b, 0, none⟩), .agg (rwC r)] w fun e w' => e = .returned (ZI ZQ 7) ∧ Below w.heap.size w w' := by
 obtain ⟨kind, rt, rsp, rsize, ⟨osp, onum, osize, oel, ofl, opr, oect⟩, delay, ra, rn, rc, marked, e0, e1, e2, ea, en, ec, err, smooth⟩ := r
 simp only at he hsp hnum hlast hsz hpl hpr hw hacc
 subst he hsp hpl hpr
 obtain ⟨z0, z1⟩ := hsz
 have HK := hide hK
 have q1 := hK.blk.cell 1
 have hkl := hK.blk.lt
 simp only [krC, ZG, ZH, ZJ] at q1
 have HSP := hide (fun W => rspace_any 0 W)
 have HIS := hide (fun W => ris_any onum W)
 rw [show isSp 0 = true from rfl] at HSP
 rw [show isN onum = true from hnum] at HIS
 have d1 : decide (onum ≤ k.last 0) = false := decide_eq_false (by omega)
 have d2 : decide (osize < 1) = false := decide_eq_false (by omega)
 have d3 : decide (k.c.d < osize) = false := decide_eq_false (by omega)
 obtain ⟨fl, hflq⟩ : ∃ x, flightP k.flying = x := ⟨_, rfl⟩
 have HFL := hide (fun W h => rflight_any b base k vL vA vR vP W h hfl (by omega))
 have hfb := flightP_bd k.flying hfl
 rw [hflq] at HFL hw hfb
 have hdec : decide (k.window < fl + osize) = false := decide_eq_false (by omega)
 have hwf : IntKind.i64.wrap (fl + osize) = fl + osize := IntWalk.i64_in _ ⟨by omega, by omega⟩
 have HAD := hide (fun W => radd_any k.sent osize W)
 have HML := hide (fun W => rmul3 k.got ⟨by omega, by omega⟩ W)
 have hdac : decide (numI (3 * k.got) < addI k.sent osize) = true := by
  have := hacc
  simp only [decide_eq_true_eq, decide_eq_false_iff_not, Int.not_le, Int.not_lt] at this ⊢
  omega
 go_enter Try.func75, Try.ntmps75
 unfold rwC
 go_upto_region 2 with (fail)
 have hs0 : RnSt w ((w.alloc (.cells #[ZI ZQ kind, ZI ZQ rt, ZI ZQ rsp, ZI ZQ rsize, ZI ZQ 0, ZI ZQ onum, ZI ZQ osize, .bool oel, .bool true, .bool false, .bool oect, ZI ZQ delay, .slice ra rn rc, .bool marked, ZI ZQ e0, ZI ZQ e1, ZI ZQ e2, .slice ea 0 ec, ZI ZQ err, ZI ZQ smooth] 93)).alloc (.cells #[ZI ZQ 0, ZI ZQ onum, ZI ZQ osize, .bool oel, .bool true, .bool false, .bool oect] 28)) b base k vL vA vR vP w.heap.size (w.heap.size + 1) #[ZI ZQ kind, ZI ZQ rt, ZI ZQ rsp, ZI ZQ rsize, ZI ZQ 0, ZI ZQ onum, ZI ZQ osize, .bool oel, .bool true, .bool false, .bool oect, ZI ZQ delay, .slice ra rn rc, .bool marked, ZI ZQ e0, ZI ZQ e1, ZI ZQ e2, .slice ea 0 ec, ZI ZQ err, ZI ZQ smooth] ⟨0, onum, osize, oel, true, false, oect⟩ := by
  have ha : Below w.heap.size w ((w.alloc (.cells #[ZI ZQ kind, ZI ZQ rt, ZI ZQ rsp, ZI ZQ rsize, ZI ZQ 0, ZI ZQ onum, ZI ZQ osize, .bool oel, .bool true, .bool false, .bool oect, ZI ZQ delay, .slice ra rn rc, .bool marked, ZI ZQ e0, ZI ZQ e1, ZI ZQ e2, .slice ea 0 ec, ZI ZQ err, ZI ZQ smooth] 93)).alloc (.cells #[ZI ZQ 0, ZI ZQ onum, ZI ZQ osize, .bool oel, .bool true, .bool false, .bool oect] 28)) := ((Below.refl _ _).alloc (Nat.le_refl _) _).alloc (by simp) _
  refine ⟨HK.out.later ha, (Blk.new _ _ _).alloc _, ?_, ha⟩
  have := Blk.new (w.alloc (.cells #[ZI ZQ kind, ZI ZQ rt, ZI ZQ rsp, ZI ZQ rsize, ZI ZQ 0, ZI ZQ onum, ZI ZQ osize, .bool oel, .bool true, .bool false, .bool oect, ZI ZQ delay, .slice ra rn rc, .bool marked, ZI ZQ e0, ZI ZQ e1, ZI ZQ e2, .slice ea 0 ec, ZI ZQ err, ZI ZQ smooth] 93)) 28 #[ZI ZQ 0, ZI ZQ onum, ZI ZQ osize, .bool oel, .bool true, .bool false, .bool oect]
  simpa [outL] using this
 obtain ⟨W1, hW1⟩ : ∃ x, (w.alloc (.cells #[ZI ZQ kind, ZI ZQ rt, ZI ZQ rsp, ZI ZQ rsize, ZI ZQ 0, ZI ZQ onum, ZI ZQ osize, .bool oel, .bool true, .bool false, .bool oect, ZI ZQ delay, .slice ra rn rc, .bool marked, ZI ZQ e0, ZI ZQ e1, ZI ZQ e2, .slice ea 0 ec, ZI ZQ err, ZI ZQ smooth] 93)).alloc (.cells #[ZI ZQ 0, ZI ZQ onum, ZI ZQ osize, .bool oel, .bool true, .bool false, .bool oect] 28) = x := ⟨_, rfl⟩
 obtain ⟨R, hR⟩ : ∃ x, w.heap.size = x := ⟨_, rfl⟩
 rw [hW1, hR] at hs0
 rw [hW1, hR]
 have HS1 := hide hs0
 have k1 := hs0.kn.blk.cell 1
 have k18 := hs0.kn.blk.cell 18
 have r17 := hs0.row.cell 17
 have o0 := hs0.out.cell 0
 have o1 := hs0.out.cell 1
 have o2 := hs0.out.cell 2
 simp only [krC, outL, ZG, ZH, ZJ] at k1 k18 r17 o0 o1 o2
 clear hs0 hW1 hR q1 hK hkl
 go_quiet (first | (go_at_call 77; with_reducible exact quiet24 (HSP.out _)) | (go_at_call 65; with_reducible exact quiet24 (HIS.out _)))
 have hsn := HS1.out.drewN nq
 obtain ⟨W2, hWn⟩ : ∃ x, W1.drewN nq = x := ⟨_, rfl⟩
 rw [hWn] at hsn
 try rw [hWn]
 have HS2 := hide hsn
 clear hWn hsn HS1
 clear k1 k18 r17 o0 o1 o2
 have o2 := HS2.out.out.cell 2
 have o4 := HS2.out.out.cell 4
 have o5 := HS2.out.out.cell 5
 have o0 := HS2.out.out.cell 0
 have k11 := HS2.out.kn.blk.cell 11
 have k12 := HS2.out.kn.blk.cell 12
 have k13 := HS2.out.kn.blk.cell 13
 have k14 := HS2.out.kn.blk.cell 14
 have k24 := HS2.out.kn.blk.cell 24
 have k27 := HS2.out.kn.blk.cell 27
 simp only [krC, outL, ZG, ZH, ZJ, hv, outL, outL] at o0 o2 o4 o5 k11 k12 k13 k14 k24 k27
 go_wp2_with fail
 go_quiet (first | (go_at_call 85; with_reducible exact quiet24 (HFL.out _ (HS2.out.kn.drewN _))))
 go_wp2_with fail
 go_quiet (fail)
 go_wp2_with fail
 go_quiet (first | (go_at_call 78; with_reducible exact quiet25 (HAD.out _)) | (go_at_call 86; with_reducible exact quiet25 (HML.out _)))
 go_wp2_with fail
 go_ret
 first | exact ⟨rfl, below_drewN HS2.out.bl _⟩ | exact ⟨rfl, below_drewN (below_drewN (below_drewN HS2.out.bl _) _) _⟩
end Go.Proofs.Ytidfngcclbhoaaa
