/-
 Rows of the program: time, nine, refused: 3 texts in one (JgRowN, JgRowO, JgRowE).
-/
import Derived.Test.YtidfngcclbhoaaaJgRow
import Derived.Deep.RegionHeld3
import Derived.Laws.EntriesVeiled
namespace Go.Proofs.Ytidfngcclbhoaaa
open List renaming getElem_toArray → ZA, getElem_cons_zero → ZB, getElem_cons_succ → ZC, setIfInBounds_toArray → ZD, set_cons_zero → ZE, set_cons_succ → ZF, getElem?_toArray → ZG, getElem?_cons_zero → ZH, getElem?_cons_succ → ZJ
open Go.AllReadyH renaming cons → ZS, nil → ZN
open Go.Act renaming put → ZP
open Go.Value renaming int → ZI
open Go.IntKind renaming i64 → ZQ
set_option linter.unusedSimpArgs false
set_option linter.unusedVariables false
open Go.RowKit Go.Shelf
set_option maxRecDepth 100000 in
set_option maxHeartbeats 8000000 in
theorem row_never (b base : Nat) (k : KN) (vf vp vd : Value) (r : RW) (rs : List RGJ) (es : List EVJ) (w : World) (hK : KnAt w b base k vf vp vd) (hR : LieAt rgL 2 w base r.ra rs) (hE : LieAt evL 4 w base r.ea es) (hen : es.length = r.en) (hel : r.en ≤ 2000)
  (hsh : k.shut = false) (herr : r.err = 0) (hcl : es.any closesP = false) (hnev : (decide (0 ≤ r.t) && decide (r.t ≤ 9007199254740991)) = false) :
  Calls Try.prog 15 #[.pointer (some ⟨b, 0, none⟩), .agg (rwC r)] w (RowPost b base w (.error 3)) := by
 obtain ⟨kind, rt, rsp, rsize, ⟨osp, onum, osize, oel, ofl, opr, oect⟩, delay, ra, rn, rc, marked, e0, e1, e2, ea, en, ec, err, smooth⟩ := r
 simp only at hR hE hen hel herr hnev ⊢
 subst herr
 have hmf : ∀ (fn : Fn) (first cap : Array Value) (w : World), (Instr.makeFunc fn first cap).run Try.prog w = .ok (.func fn first cap) w := fun _ _ _ _ => rfl
 have hbb : base ≤ w.heap.size := Nat.le_of_lt (Nat.lt_of_le_of_lt hK.ge hK.blk.lt)
 have ha : Below w.heap.size w ((w.alloc (.cells (rwC ⟨kind, rt, rsp, rsize, ⟨osp, onum, osize, oel, ofl, opr, oect⟩, delay, ra, rn, rc, marked, e0, e1, e2, ea, en, ec, 0, smooth⟩) 36)).alloc (.cells #[ZI ZQ 0] 3)) := ((Below.refl _ _).alloc (Nat.le_refl _) _).alloc (by simp) _
 have hs0 : RowSt w ((w.alloc (.cells (rwC ⟨kind, rt, rsp, rsize, ⟨osp, onum, osize, oel, ofl, opr, oect⟩, delay, ra, rn, rc, marked, e0, e1, e2, ea, en, ec, 0, smooth⟩) 36)).alloc (.cells #[ZI ZQ 0] 3)) b base k vf vp vd w.heap.size ⟨kind, rt, rsp, rsize, ⟨osp, onum, osize, oel, ofl, opr, oect⟩, delay, ra, rn, rc, marked, e0, e1, e2, ea, en, ec, 0, smooth⟩ es rs := by
  refine ⟨hK.later ha, (Blk.new _ _ _).alloc _, ?_, hR.later (ha.mono hbb), hE.later (ha.mono hbb), Far.of_below ha hbb⟩
  have := Blk.new (w.alloc (.cells (rwC ⟨kind, rt, rsp, rsize, ⟨osp, onum, osize, oel, ofl, opr, oect⟩, delay, ra, rn, rc, marked, e0, e1, e2, ea, en, ec, 0, smooth⟩) 36)) 3 #[ZI ZQ 0]
  simpa using this
 obtain ⟨W1, hW1⟩ : ∃ x, (w.alloc (.cells (rwC ⟨kind, rt, rsp, rsize, ⟨osp, onum, osize, oel, ofl, opr, oect⟩, delay, ra, rn, rc, marked, e0, e1, e2, ea, en, ec, 0, smooth⟩) 36)).alloc (.cells #[ZI ZQ 0] 3) = x := ⟨_, rfl⟩
 obtain ⟨R, hRr⟩ : ∃ x, w.heap.size = x := ⟨_, rfl⟩
 have HRR := hide hRr
 have HBB := hide hbb
 have HY := hide (fun rule W => unless_yes rule W)
 have HNO := hide (fun rule W => unless_no rule W)
 have HCO := hide (fun W h => con_ev ea en ec es W hen hel h)
 rw [hcl] at HCO
 have HIS := hide (fun W => jis_any rt W)
 rw [hnev] at HIS
 clear hnev
 rw [hW1, hRr] at hs0
 have HS1 := hide hs0
 have k15 := hs0.kn.blk.cell 15
 have r17 := hs0.row.cell 17
 have r18 := hs0.row.cell 18
 simp only [knC, rwC, ZG, ZH, ZJ] at k15 r17 r18
 rw [hsh] at k15
 unfold rwC at hW1 ⊢
 clear hs0 ha hR hE hcl hK
 go_enter_defers Try.func15, Try.ntmps15
 go_wp2_with fail
 clear hW1 hRr k15 r17 r18 hbb
 with_reducible refine (HCO.out _ (HS1.out.ev.up HS1.out.ge)).mono ?_
 rintro y1 W2 ⟨rfl, hb1⟩
 have hs2 := HS1.out.later hb1
 have HS2 := hide hs2
 clear HS1 hb1 HCO
 go_wp2_with fail
 with_reducible refine (HY.out _ _).mono ?_
 rintro y2 u2 ⟨rfl, rfl⟩
 have r1 := hs2.row.cell 1
 have k10 := hs2.kn.blk.cell 10
 simp only [knC, rwC, ZG, ZH, ZJ] at r1 k10
 clear hs2
 go_wp2_with fail
 clear r1 k10
 refine wp_region_held_drew (S := (fun w' => RowSt w w' b base k vf vp vd R ⟨kind, rt, rsp, rsize, ⟨osp, onum, osize, oel, ofl, opr, oect⟩, delay, ra, rn, rc, marked, e0, e1, e2, ea, en, ec, 0, smooth⟩ es rs)) (by kernel_rfl) (HS2.out.later (below_drewN (Below.refl _ _) 1)) (fun hHeld => ?_)
 refine tkH 0 ?_ rfl (fun c a9 w9 h => leaves_same (row_results a9.tmps 71 _ (by decide)) a9.defers _ w9 h) ?_ ?_
 rotate_left
 ·intro w' hSw; (try dsimp only at hSw); have r1 := (RowSt.row hSw).cell 1; simp only [rwC, ZG, ZH, ZJ] at r1; go_simp; try with_reducible rfl
 try simp only [ZP, ZA, ZB, ZC, ZD, ZE, ZF]
 refine tkH 1 ?_ rfl (fun c a9 w9 h => leaves_same (row_results a9.tmps 72 _ (by decide)) a9.defers _ w9 h) ?_ ?_
 rotate_left
 ·intro w' hSw; (try dsimp only at hSw); have r1 := (RowSt.row hSw).cell 1; simp only [rwC, ZG, ZH, ZJ] at r1; go_simp; try with_reducible rfl
 try simp only [ZP, ZA, ZB, ZC, ZD, ZE, ZF]
 refine tkR [2] ?_
 refine ZS rfl (fun K hK => ?_) ZN
 go_simp
 go_at_call 25
 with_reducible refine (HIS.out _).mono ?_
 rintro y5 u5 ⟨rfl, rfl⟩
 refine hK.out _ _ (hHeld) (fun hHeld => ?_)
 clear hK K
 try simp only [ZP, ZA, ZB, ZC, ZD, ZE, ZF]
 refine tkH 3 ?_ rfl (fun c a9 w9 h => leaves_same (row_results a9.tmps 74 _ (by decide)) a9.defers _ w9 h) ?_ ?_
 rotate_left
 ·intro w' hSw; (try dsimp only at hSw); have r1 := (RowSt.row hSw).cell 1; simp only [rwC, ZG, ZH, ZJ] at r1; go_simp; try with_reducible rfl
 try simp only [ZP, ZA, ZB, ZC, ZD, ZE, ZF]
 refine tkU 4 rfl (fun c a9 w9 h => leaves_same (row_results a9.tmps 75 _ (by decide)) a9.defers _ w9 h) ?_
 try simp only [ZP, ZA, ZB, ZC, ZD, ZE, ZF]
 refine tkU 5 rfl (fun c a9 w9 h => leaves_same (row_results a9.tmps 76 _ (by decide)) a9.defers _ w9 h) ?_
 try simp only [ZP, ZA, ZB, ZC, ZD, ZE, ZF]
 refine tkU 6 rfl (fun c a9 w9 h => leaves_same (row_results a9.tmps 77 _ (by decide)) a9.defers _ w9 h) ?_
 try simp only [ZP, ZA, ZB, ZC, ZD, ZE, ZF]
 refine tkU 7 rfl (fun c a9 w9 h => leaves_same (row_results a9.tmps 78 _ (by decide)) a9.defers _ w9 h) ?_
 try simp only [ZP, ZA, ZB, ZC, ZD, ZE, ZF]
 refine tkU 8 rfl (fun c a9 w9 h => leaves_same (row_results a9.tmps 79 _ (by decide)) a9.defers _ w9 h) ?_
 try simp only [ZP, ZA, ZB, ZC, ZD, ZE, ZF]
 refine tkU 9 rfl (fun c a9 w9 h => leaves_same (row_results a9.tmps 80 _ (by decide)) a9.defers _ w9 h) ?_
 try simp only [ZP, ZA, ZB, ZC, ZD, ZE, ZF]
 refine tkU 10 rfl (fun c a9 w9 h => leaves_same (row_results a9.tmps 81 _ (by decide)) a9.defers _ w9 h) ?_
 try simp only [ZP, ZA, ZB, ZC, ZD, ZE, ZF]
 refine tkH 11 ?_ rfl (fun c a9 w9 h => leaves_same (row_results a9.tmps 82 _ (by decide)) a9.defers _ w9 h) ?_ ?_
 rotate_left
 ·intro w' hSw; (try dsimp only at hSw); have r1 := (RowSt.row hSw).cell 1; simp only [rwC, ZG, ZH, ZJ] at r1; go_simp; try with_reducible rfl
 try simp only [ZP, ZA, ZB, ZC, ZD, ZE, ZF]
 refine tkR [12] ?_
 refine ZS rfl (fun K hK => ?_) ZN
 go_simp
 go_at_call 23
 with_reducible refine (HNO.out _ _).mono ?_
 rintro y6 u6 ⟨rfl, rfl⟩
 exact row_throws rfl (RowSt.res hHeld) (RowSt.bl hHeld) (by rw [HRR.out]; exact Nat.le_refl _) HBB.out rfl
set_option maxRecDepth 100000 in
set_option maxHeartbeats 8000000 in
theorem row_closes (b base : Nat) (k : KN) (vf vp vd : Value) (r : RW) (rs : List RGJ) (es : List EVJ) (w : World) (hK : KnAt w b base k vf vp vd) (hR : LieAt rgL 2 w base r.ra rs) (hE : LieAt evL 4 w base r.ea es) (hen : es.length = r.en) (hel : r.en ≤ 2000)
  (hsh : k.shut = false) (herr : r.err = 0) (hcls : es.any closesP = true) :
  Calls Try.prog 15 #[.pointer (some ⟨b, 0, none⟩), .agg (rwC r)] w (RowPost b base w (.error 2)) := by
 obtain ⟨kind, rt, rsp, rsize, ⟨osp, onum, osize, oel, ofl, opr, oect⟩, delay, ra, rn, rc, marked, e0, e1, e2, ea, en, ec, err, smooth⟩ := r
 simp only at hR hE hen hel herr ⊢
 subst herr
 have hmf : ∀ (fn : Fn) (first cap : Array Value) (w : World), (Instr.makeFunc fn first cap).run Try.prog w = .ok (.func fn first cap) w := fun _ _ _ _ => rfl
 have hbb : base ≤ w.heap.size := Nat.le_of_lt (Nat.lt_of_le_of_lt hK.ge hK.blk.lt)
 have ha : Below w.heap.size w ((w.alloc (.cells (rwC ⟨kind, rt, rsp, rsize, ⟨osp, onum, osize, oel, ofl, opr, oect⟩, delay, ra, rn, rc, marked, e0, e1, e2, ea, en, ec, 0, smooth⟩) 36)).alloc (.cells #[ZI ZQ 0] 3)) := ((Below.refl _ _).alloc (Nat.le_refl _) _).alloc (by simp) _
 have hs0 : RowSt w ((w.alloc (.cells (rwC ⟨kind, rt, rsp, rsize, ⟨osp, onum, osize, oel, ofl, opr, oect⟩, delay, ra, rn, rc, marked, e0, e1, e2, ea, en, ec, 0, smooth⟩) 36)).alloc (.cells #[ZI ZQ 0] 3)) b base k vf vp vd w.heap.size ⟨kind, rt, rsp, rsize, ⟨osp, onum, osize, oel, ofl, opr, oect⟩, delay, ra, rn, rc, marked, e0, e1, e2, ea, en, ec, 0, smooth⟩ es rs := by
  refine ⟨hK.later ha, (Blk.new _ _ _).alloc _, ?_, hR.later (ha.mono hbb), hE.later (ha.mono hbb), Far.of_below ha hbb⟩
  have := Blk.new (w.alloc (.cells (rwC ⟨kind, rt, rsp, rsize, ⟨osp, onum, osize, oel, ofl, opr, oect⟩, delay, ra, rn, rc, marked, e0, e1, e2, ea, en, ec, 0, smooth⟩) 36)) 3 #[ZI ZQ 0]
  simpa using this
 obtain ⟨W1, hW1⟩ : ∃ x, (w.alloc (.cells (rwC ⟨kind, rt, rsp, rsize, ⟨osp, onum, osize, oel, ofl, opr, oect⟩, delay, ra, rn, rc, marked, e0, e1, e2, ea, en, ec, 0, smooth⟩) 36)).alloc (.cells #[ZI ZQ 0] 3) = x := ⟨_, rfl⟩
 obtain ⟨R, hRr⟩ : ∃ x, w.heap.size = x := ⟨_, rfl⟩
 have HRR := hide hRr
 have HBB := hide hbb
 have HY := hide (fun rule W => unless_yes rule W)
 have HNO := hide (fun rule W => unless_no rule W)
 have HCO := hide (fun W h => con_ev ea en ec es W hen hel h)
 rw [hcls] at HCO
 have HIS := True.intro
 rw [hW1, hRr] at hs0
 have HS1 := hide hs0
 have k15 := hs0.kn.blk.cell 15
 have r17 := hs0.row.cell 17
 have r18 := hs0.row.cell 18
 simp only [knC, rwC, ZG, ZH, ZJ] at k15 r17 r18
 rw [hsh] at k15
 unfold rwC at hW1 ⊢
 clear hs0 ha hR hE hcls hK
 go_enter_defers Try.func15, Try.ntmps15
 go_wp2_with fail
 clear hW1 hRr k15 r17 r18 hbb
 with_reducible refine (HCO.out _ (HS1.out.ev.up HS1.out.ge)).mono ?_
 rintro y1 W2 ⟨rfl, hb1⟩
 have hs2 := HS1.out.later hb1
 have HS2 := hide hs2
 clear HS1 hb1 HCO
 go_wp2_with fail
 with_reducible refine (HNO.out _ _).mono ?_
 rintro y2 u2 ⟨rfl, rfl⟩
 exact row_throws rfl HS2.out.res HS2.out.bl (by rw [HRR.out]; exact Nat.le_refl _) HBB.out rfl
end Go.Proofs.Ytidfngcclbhoaaa

namespace Go.Proofs.Ytidfngcclbhoaaa
open List renaming getElem_toArray → ZA, getElem_cons_zero → ZB, getElem_cons_succ → ZC, setIfInBounds_toArray → ZD, set_cons_zero → ZE, set_cons_succ → ZF, getElem?_toArray → ZG, getElem?_cons_zero → ZH, getElem?_cons_succ → ZJ
open Go.AllReadyH renaming cons → ZS, nil → ZN
open Go.Act renaming put → ZP
open Go.Value renaming int → ZI
open Go.IntKind renaming i64 → ZQ
set_option linter.unusedSimpArgs false
set_option linter.unusedVariables false
open Go.RowKit Go.Shelf
set_option maxRecDepth 100000 in
set_option maxHeartbeats 8000000 in
theorem row_nine (b base : Nat) (k : KN) (vf vp vd : Value) (r : RW) (rs : List RGJ) (es : List EVJ) (w : World) (hK : KnAt w b base k vf vp vd) (hR : LieAt rgL 2 w base r.ra rs) (hE : LieAt evL 4 w base r.ea es) (hen : es.length = r.en) (hel : r.en ≤ 2000)
  (hsh : k.shut = false) (herr : r.err = 0) (hcl : es.any closesP = false) (ht : 0 ≤ r.t ∧ r.t ≤ 9007199254740991) (hk : r.kind = 9) (hlate : k.t ≤ r.t) (P : KN → Prop)
  (hP1 : P { k with t := r.t }) (hPe : ∀ k1 e k2, P k1 → e ∈ es → eventP k1 r rs e = .ok k2 → P k2) (hPl : ∀ k1, P k1 → k1.pieces.length ≤ 1900)
  (hev : ∀ k1 e W vf vp vd, P k1 → e ∈ es → KnAt W b base k1 vf vp vd → LieAt rgL 2 W base r.ra rs → Calls Try.prog 32 #[.pointer (some ⟨b, 0, none⟩), .agg (rwC r), .agg #[ZI ZQ e.kind, ZI ZQ e.sp, ZI ZQ e.num, ZI ZQ e.n]] W (StepPost b base W (eventP k1 r rs e))) :
  Calls Try.prog 15 #[.pointer (some ⟨b, 0, none⟩), .agg (rwC r)] w (RowPost b base w (goesP r rs es (.ok { k with t := r.t }))) := by
 obtain ⟨kind, rt, rsp, rsize, ⟨osp, onum, osize, oel, ofl, opr, oect⟩, delay, ra, rn, rc, marked, e0, e1, e2, ea, en, ec, err, smooth⟩ := r
 simp only at hR hE hen hel herr ht hk hlate ⊢
 subst herr
 subst hk
 have HEV := hide hev
 have HP1 := hide hP1
 have HPE := hide hPe
 have HPL := hide hPl
 clear hev hP1 hPe hPl
 have hmf : ∀ (fn : Fn) (first cap : Array Value) (w : World), (Instr.makeFunc fn first cap).run Try.prog w = .ok (.func fn first cap) w := fun _ _ _ _ => rfl
 have hbb : base ≤ w.heap.size := Nat.le_of_lt (Nat.lt_of_le_of_lt hK.ge hK.blk.lt)
 have ha : Below w.heap.size w ((w.alloc (.cells (rwC ⟨9, rt, rsp, rsize, ⟨osp, onum, osize, oel, ofl, opr, oect⟩, delay, ra, rn, rc, marked, e0, e1, e2, ea, en, ec, 0, smooth⟩) 36)).alloc (.cells #[ZI ZQ 0] 3)) := ((Below.refl _ _).alloc (Nat.le_refl _) _).alloc (by simp) _
 have hs0 : RowSt w ((w.alloc (.cells (rwC ⟨9, rt, rsp, rsize, ⟨osp, onum, osize, oel, ofl, opr, oect⟩, delay, ra, rn, rc, marked, e0, e1, e2, ea, en, ec, 0, smooth⟩) 36)).alloc (.cells #[ZI ZQ 0] 3)) b base k vf vp vd w.heap.size ⟨9, rt, rsp, rsize, ⟨osp, onum, osize, oel, ofl, opr, oect⟩, delay, ra, rn, rc, marked, e0, e1, e2, ea, en, ec, 0, smooth⟩ es rs := by
  refine ⟨hK.later ha, (Blk.new _ _ _).alloc _, ?_, hR.later (ha.mono hbb), hE.later (ha.mono hbb), Far.of_below ha hbb⟩
  have := Blk.new (w.alloc (.cells (rwC ⟨9, rt, rsp, rsize, ⟨osp, onum, osize, oel, ofl, opr, oect⟩, delay, ra, rn, rc, marked, e0, e1, e2, ea, en, ec, 0, smooth⟩) 36)) 3 #[ZI ZQ 0]
  simpa using this
 obtain ⟨res, hres⟩ : ∃ x, goesP ⟨9, rt, rsp, rsize, ⟨osp, onum, osize, oel, ofl, opr, oect⟩, delay, ra, rn, rc, marked, e0, e1, e2, ea, en, ec, 0, smooth⟩ rs es (.ok { k with t := rt }) = x := ⟨_, rfl⟩
 rw [hres]
 have HRES := hide hres
 clear hres
 obtain ⟨W1, hW1⟩ : ∃ x, (w.alloc (.cells (rwC ⟨9, rt, rsp, rsize, ⟨osp, onum, osize, oel, ofl, opr, oect⟩, delay, ra, rn, rc, marked, e0, e1, e2, ea, en, ec, 0, smooth⟩) 36)).alloc (.cells #[ZI ZQ 0] 3) = x := ⟨_, rfl⟩
 obtain ⟨R, hRr⟩ : ∃ x, w.heap.size = x := ⟨_, rfl⟩
 have HRR := hide hRr
 have HBB := hide hbb
 have HY := hide (fun rule W => unless_yes rule W)
 have HNO := hide (fun rule W => unless_no rule W)
 have HCO := hide (fun W h => con_ev ea en ec es W hen hel h)
 rw [hcl] at HCO
 have HIS := hide (fun W => jis_any rt W)
 rw [show (decide (0 ≤ rt) && decide (rt ≤ 9007199254740991)) = true by simp [ht.1, ht.2]] at HIS
 rw [hW1, hRr] at hs0
 have HS1 := hide hs0
 have k15 := hs0.kn.blk.cell 15
 have r17 := hs0.row.cell 17
 have r18 := hs0.row.cell 18
 simp only [knC, rwC, ZG, ZH, ZJ] at k15 r17 r18
 rw [hsh] at k15
 unfold rwC at hW1 ⊢
 clear hs0 ha hR hE hcl hK
 go_enter_defers Try.func15, Try.ntmps15
 go_wp2_with fail
 clear hW1 hRr k15 r17 r18 hbb
 with_reducible refine (HCO.out _ (HS1.out.ev.up HS1.out.ge)).mono ?_
 rintro y1 W2 ⟨rfl, hb1⟩
 have hs2 := HS1.out.later hb1
 have HS2 := hide hs2
 clear HS1 hb1 HCO
 go_wp2_with fail
 with_reducible refine (HY.out _ _).mono ?_
 rintro y2 u2 ⟨rfl, rfl⟩
 have r1 := hs2.row.cell 1
 have k10 := hs2.kn.blk.cell 10
 simp only [knC, rwC, ZG, ZH, ZJ] at r1 k10
 clear hs2
 go_wp2_with fail
 go_quiet (first | (go_at_call 25; with_reducible exact quiet24 (HIS.out _)) | (go_at_call 23; with_reducible exact quiet24 (HY.out _ _)))
 have hs3 := HS2.out.later (below_drewN (Below.refl _ _) nq)
 obtain ⟨W3, hW3⟩ : ∃ x, W2.drewN nq = x := ⟨_, rfl⟩
 rw [hW3] at hs3
 try rw [hW3]
 have HS3 := hide hs3
 clear r1 k10 hW3 HS2
 have r1 := hs3.row.cell 1
 have k10 := hs3.kn.blk.cell 10
 have f10 := hs3.kn.blk.frozen 10
 simp only [knC, rwC, ZG, ZH, ZJ] at r1 k10
 clear hs3
 go_upto_region 13 with (fail)
 have hs4 := HS3.out.put (k' := { k with t := rt }) 10 (ZI ZQ rt) rfl rfl rfl rfl
 obtain ⟨W4, hW4⟩ : ∃ x, W3.setCell ⟨b, 10, none⟩ (ZI ZQ rt) = x := ⟨_, rfl⟩
 rw [hW4] at hs4
 rw [hW4]
 have HS4 := hide hs4
 clear r1 k10 f10 hW4 HS3
 go_upto_region 14 with (fail)
 have hs5 := HS4.out.later ((Below.refl _ _).alloc (Nat.le_refl _) (.cells #[.func (.func 26) #[] #[], .func (.func 27) #[] #[], .func (.func 28) #[] #[], .func (.func 29) #[] #[], .func (.func 26) #[] #[], .func (.func 26) #[] #[], .func (.func 30) #[] #[], .func (.func 31) #[] #[], .func (.func 31) #[] #[]] 84))
 have hst := Blk.new W4 84 #[.func (.func 26) #[] #[], .func (.func 27) #[] #[], .func (.func 28) #[] #[], .func (.func 29) #[] #[], .func (.func 26) #[] #[], .func (.func 26) #[] #[], .func (.func 30) #[] #[], .func (.func 31) #[] #[], .func (.func 31) #[] #[]]
 obtain ⟨W5, hW5⟩ : ∃ x, W4.alloc (.cells #[.func (.func 26) #[] #[], .func (.func 27) #[] #[], .func (.func 28) #[] #[], .func (.func 29) #[] #[], .func (.func 26) #[] #[], .func (.func 26) #[] #[], .func (.func 30) #[] #[], .func (.func 31) #[] #[], .func (.func 31) #[] #[]] 84) = x := ⟨_, rfl⟩
 obtain ⟨X, hX⟩ : ∃ x, W4.heap.size = x := ⟨_, rfl⟩
 rw [hW5] at hs5 hst
 rw [hX] at hst
 rw [hW5, hX]
 clear hW5 hX HS4
 have r0 := hs5.row.cell 0
 simp only [rwC, ZG, ZH, ZJ] at r0
 have r17 := hs5.row.cell 17
 simp only [rwC, ZG, ZH, ZJ] at r17
 have HS5 := hide hs5
 have HST5 := hide hst
 have hs5d : RowSt w W5.drew b base { k with t := rt } vf vp vd R ⟨9, rt, rsp, rsize, ⟨osp, onum, osize, oel, ofl, opr, oect⟩, delay, ra, rn, rc, marked, e0, e1, e2, ea, en, ec, 0, smooth⟩ es rs := hs5.later (below_drewN (Below.refl _ _) 1)
 have HS5D := hide hs5d
 clear hs5 hst hs5d
 go_wp2_with fail
 clear r0 r17
 obtain ⟨k1, hk1⟩ : ∃ y, ({ k with t := rt } : KN) = y := ⟨_, rfl⟩
 rw [hk1] at HRES HS5 HP1
 have HK1 := hide hk1
 clear hk1 HS5D HST5
 have hp1 := HP1.out
 have HS6 := hide HS5.out
 clear HS5 HP1
 go_loopg [108] en (fun kx s108 wr => ∃ (i : Nat) (k2 : KN) (vf2 vp2 vd2 : Value), s108 = ZI ZQ i ∧ i ≤ en ∧ en - i ≤ kx ∧ P k2 ∧ Hid (eventsP ⟨9, rt, rsp, rsize, ⟨osp, onum, osize, oel, ofl, opr, oect⟩, delay, ra, rn, rc, marked, e0, e1, e2, ea, en, ec, 0, smooth⟩ rs k1 es = eventsP ⟨9, rt, rsp, rsize, ⟨osp, onum, osize, oel, ofl, opr, oect⟩, delay, ra, rn, rc, marked, e0, e1, e2, ea, en, ec, 0, smooth⟩ rs k2 (es.drop i)) ∧ RowSt w wr b base k2 vf2 vp2 vd2 R ⟨9, rt, rsp, rsize, ⟨osp, onum, osize, oel, ofl, opr, oect⟩, delay, ra, rn, rc, marked, e0, e1, e2, ea, en, ec, 0, smooth⟩ es rs)
 case atStart => exact ⟨0, k1, vf, vp, vd, rfl, by omega, by omega, hp1, rfl, HS6.out⟩
 case round =>
  clear HS6 hp1
  obtain ⟨i, k2, vf2, vp2, vd2, rfl, hi, hkx, hp2, heq, hs⟩ := hrel
  have HS := hide hs
  have HP2 := hide hp2
  clear hp2
  by_cases hlt : i < en
  ·have hir : i < es.length := by rw [hen]; exact hlt
   obtain ⟨e, he⟩ : ∃ e, es[i]? = some e := ⟨_, List.getElem?_eq_getElem hir⟩
   have hd : es.drop i = e :: es.drop (i + 1) := by
    rw [List.drop_eq_getElem_cons hir]
    congr 1
    rw [List.getElem?_eq_getElem hir] at he
    exact Option.some.inj he
   have hmem : e ∈ es := List.mem_of_getElem? he
   obtain ⟨g, o, rfl, hg, hz⟩ := hs.ev.at he
   have z0 := hz 0 _ (by omega) rfl
   have z1 := hz 1 _ (by omega) rfl
   have z2 := hz 2 _ (by omega) rfl
   have z3 := hz 3 _ (by omega) rfl
   simp only [Nat.add_zero] at z0
   have hin : (i : Int) < (en : Int) := by omega
   have HEQ : Hid (eventsP ⟨9, rt, rsp, rsize, ⟨osp, onum, osize, oel, ofl, opr, oect⟩, delay, ra, rn, rc, marked, e0, e1, e2, (some ⟨g, o, none⟩), en, ec, 0, smooth⟩ rs k1 es = match eventP k2 ⟨9, rt, rsp, rsize, ⟨osp, onum, osize, oel, ofl, opr, oect⟩, delay, ra, rn, rc, marked, e0, e1, e2, (some ⟨g, o, none⟩), en, ec, 0, smooth⟩ rs e with
     | .ok k3 => eventsP ⟨9, rt, rsp, rsize, ⟨osp, onum, osize, oel, ofl, opr, oect⟩, delay, ra, rn, rc, marked, e0, e1, e2, (some ⟨g, o, none⟩), en, ec, 0, smooth⟩ rs k3 (es.drop (i + 1))
     | .error n => .error n) := by
    show _ = _
    rw [heq, hd]
    rfl
   have hbx : Below wr.heap.size wr (wr.alloc (.cells #[ZI ZQ e.kind, ZI ZQ e.sp, ZI ZQ e.num, ZI ZQ e.n] 46)) := (Below.refl _ _).alloc (Nat.le_refl _) _
   have HSX := hide (hs.later hbx)
   have HMEM := hide hmem
   clear heq hd hir he hz hs hbx hmem
   go_wp2_with (refine wpList_load_row rfl 36 (.tmp 3) rfl R rfl 36 (rwC ⟨9, rt, rsp, rsize, ⟨osp, onum, osize, oel, ofl, opr, oect⟩, delay, ra, rn, rc, marked, e0, e1, e2, (some ⟨g, o, none⟩), en, ec, 0, smooth⟩) (0, 0) _ HSX.out.row Try.underlying36 rfl row_size ?_)
   with_reducible refine (HEV.out k2 e _ vf2 vp2 vd2 HP2.out HMEM.out HSX.out.kn HSX.out.rg).mono ?_
   cases hq : eventP k2 ⟨9, rt, rsp, rsize, ⟨osp, onum, osize, oel, ofl, opr, oect⟩, delay, ra, rn, rc, marked, e0, e1, e2, (some ⟨g, o, none⟩), en, ec, 0, smooth⟩ rs e with
   | error n =>
    rintro y7 W7 ⟨rfl, hf7⟩
    have HE : Hid (res = .error n) := by
     show _ = _
     rw [← HRES.out]
     unfold goesP
     simp only
     rw [HEQ.out, hq]
    exact row_throws rfl (hf7.kept HSX.out.res (by decide) (by decide) (by decide) (by decide)) (HSX.out.bl.trans hf7) (by rw [HRR.out]; exact Nat.le_refl _) HBB.out HE.out
   | ok k3 =>
    rintro y7 W7 ⟨rfl, vf3, vp3, vd3, hk3, hf7⟩
    have hs7 := HSX.out.far hf7 hk3
    have HS7 := hide hs7
    have HP3 := hide (HPE.out k2 e k3 HP2.out HMEM.out hq)
    rw [hq] at HEQ
    have HEQ7 := hide HEQ.out
    clear hs7 hk3 hf7 hq HEQ HSX HS z0 z1 z2 z3
    go_wp2_with fail
    go_roundg (en - (i + 1))
    case rel => exact ⟨i + 1, k3, vf3, vp3, vd3, by go_num, by omega, by omega, HP3.out, HEQ7.out, HS7.out⟩
    case measure => omega
  ·obtain rfl : en = i := by omega
   have hin : ¬ (en : Int) < (en : Int) := by omega
   have HEQ : Hid (eventsP ⟨9, rt, rsp, rsize, ⟨osp, onum, osize, oel, ofl, opr, oect⟩, delay, ra, rn, rc, marked, e0, e1, e2, ea, en, ec, 0, smooth⟩ rs k1 es = .ok k2) := by
    show _ = _
    rw [heq, List.drop_of_length_le (by rw [hen]; exact Nat.le_refl _)]
    rfl
   clear heq
   have HTI := hide (fun W => timed_any ⟨9, rt, rsp, rsize, ⟨osp, onum, osize, oel, ofl, opr, oect⟩, delay, ra, rn, rc, marked, e0, e1, e2, ea, en, ec, 0, smooth⟩ W)
   rw [show timedB ⟨9, rt, rsp, rsize, ⟨osp, onum, osize, oel, ofl, opr, oect⟩, delay, ra, rn, rc, marked, e0, e1, e2, ea, en, ec, 0, smooth⟩ = false from rfl] at HTI
   clear hs
   go_wp2_with (refine wpList_load_row rfl 36 (.tmp 3) rfl R rfl 36 (rwC ⟨9, rt, rsp, rsize, ⟨osp, onum, osize, oel, ofl, opr, oect⟩, delay, ra, rn, rc, marked, e0, e1, e2, ea, en, ec, 0, smooth⟩) (0, 0) _ HS.out.row Try.underlying36 rfl row_size ?_)
   with_reducible refine (HTI.out _).mono ?_
   rintro y8 W8 ⟨rfl, hb8⟩
   have hs8 := HS.out.later hb8
   have HS8 := hide hs8
   clear hb8 HS HTI hs8
   have HE : Hid (res = .ok k2) := by
    show _ = _
    rw [← HRES.out]
    unfold goesP
    simp only
    rw [HEQ.out]
    rfl
   have q0 := HS8.out.res.cell 0
   have qf := HS8.out.res.frozen 0
   simp only [ZG, ZH] at q0
   go_wp2_with fail
   refine leaves_cons (f := 21) (args := #[.pointer (some ⟨R + 1, 0, none⟩)]) (by simp) (by simp [go_sem]) ?_
   refine (catch_nil (R + 1) _).mono ?_
   rintro e6 u6 w6 ⟨rfl, rfl, rfl⟩
   have z0 := (HS8.out.res.set 0 (ZI ZQ 0)).cell 0
   simp at z0
   simp [Leaves, settle, results, Try.results15, go_sem, z0]
   exact row_ends HE.out HS8.out (by rw [HRR.out]; exact Nat.le_refl _) HBB.out
end Go.Proofs.Ytidfngcclbhoaaa

namespace Go.Proofs.Ytidfngcclbhoaaa
open List renaming getElem_toArray → ZA, getElem_cons_zero → ZB, getElem_cons_succ → ZC, setIfInBounds_toArray → ZD, set_cons_zero → ZE, set_cons_succ → ZF, getElem?_toArray → ZG, getElem?_cons_zero → ZH, getElem?_cons_succ → ZJ
open Go.AllReadyH renaming cons → ZS, nil → ZN
open Go.Act renaming put → ZP
open Go.Value renaming int → ZI
open Go.IntKind renaming i64 → ZQ
set_option linter.unusedSimpArgs false
set_option linter.unusedVariables false
open Go.RowKit Go.Shelf
set_option maxRecDepth 100000 in
set_option maxHeartbeats 8000000 in
theorem row_refused (b base : Nat) (k : KN) (vf vp vd : Value) (r : RW) (rs : List RGJ) (es : List EVJ) (w : World) (hK : KnAt w b base k vf vp vd) (hR : LieAt rgL 2 w base r.ra rs) (hE : LieAt evL 4 w base r.ea es) (hen : es.length = r.en) (hel : r.en ≤ 2000)
  (hsh : k.shut = false) (e : EVJ) (hes : es = [e]) (hce : closesP e = true) (hne : (e.n == r.err) = false) (hr9 : (r.err == 0) = false) :
  Calls Try.prog 15 #[.pointer (some ⟨b, 0, none⟩), .agg (rwC r)] w (RowPost b base w (.error 2)) := by
 obtain ⟨kind, rt, rsp, rsize, ⟨osp, onum, osize, oel, ofl, opr, oect⟩, delay, ra, rn, rc, marked, e0, e1, e2, ea, en, ec, err, smooth⟩ := r
 simp only at hR hE hen hel hne hr9 ⊢
 have hmf : ∀ (fn : Fn) (first cap : Array Value) (w : World), (Instr.makeFunc fn first cap).run Try.prog w = .ok (.func fn first cap) w := fun _ _ _ _ => rfl
 have hbb : base ≤ w.heap.size := Nat.le_of_lt (Nat.lt_of_le_of_lt hK.ge hK.blk.lt)
 have ha : Below w.heap.size w ((w.alloc (.cells (rwC ⟨kind, rt, rsp, rsize, ⟨osp, onum, osize, oel, ofl, opr, oect⟩, delay, ra, rn, rc, marked, e0, e1, e2, ea, en, ec, err, smooth⟩) 36)).alloc (.cells #[ZI ZQ 0] 3)) := ((Below.refl _ _).alloc (Nat.le_refl _) _).alloc (by simp) _
 have hs0 : RowSt w ((w.alloc (.cells (rwC ⟨kind, rt, rsp, rsize, ⟨osp, onum, osize, oel, ofl, opr, oect⟩, delay, ra, rn, rc, marked, e0, e1, e2, ea, en, ec, err, smooth⟩) 36)).alloc (.cells #[ZI ZQ 0] 3)) b base k vf vp vd w.heap.size ⟨kind, rt, rsp, rsize, ⟨osp, onum, osize, oel, ofl, opr, oect⟩, delay, ra, rn, rc, marked, e0, e1, e2, ea, en, ec, err, smooth⟩ es rs := by
  refine ⟨hK.later ha, (Blk.new _ _ _).alloc _, ?_, hR.later (ha.mono hbb), hE.later (ha.mono hbb), Far.of_below ha hbb⟩
  have := Blk.new (w.alloc (.cells (rwC ⟨kind, rt, rsp, rsize, ⟨osp, onum, osize, oel, ofl, opr, oect⟩, delay, ra, rn, rc, marked, e0, e1, e2, ea, en, ec, err, smooth⟩) 36)) 3 #[ZI ZQ 0]
  simpa using this
 obtain ⟨W1, hW1⟩ : ∃ x, (w.alloc (.cells (rwC ⟨kind, rt, rsp, rsize, ⟨osp, onum, osize, oel, ofl, opr, oect⟩, delay, ra, rn, rc, marked, e0, e1, e2, ea, en, ec, err, smooth⟩) 36)).alloc (.cells #[ZI ZQ 0] 3) = x := ⟨_, rfl⟩
 obtain ⟨R, hRr⟩ : ∃ x, w.heap.size = x := ⟨_, rfl⟩
 have HRR := hide hRr
 have HSH := hide hsh
 have HBB := hide hbb
 have HY := hide (fun rule W => unless_yes rule W)
 have HNO := hide (fun rule W => unless_no rule W)
 have HCE := hide (fun W => row2_any e W)
 rw [hce] at HCE
 rw [hW1, hRr] at hs0
 have HS1 := hide hs0
 have k15 := hs0.kn.blk.cell 15
 have r17 := hs0.row.cell 17
 have r18 := hs0.row.cell 18
 simp only [knC, rwC, ZG, ZH, ZJ] at k15 r17 r18
 rw [hsh] at k15
 unfold rwC at hW1 ⊢
 clear hs0 ha hR hE hK
 subst hes
 obtain rfl : en = 1 := by simpa using hen.symm
 obtain ⟨g, o, rfl, hg, hz0⟩ := HS1.out.ev.at (i := 0) (x := e) rfl
 have HEVC := hide (show ∀ W', RowSt w W' b base k vf vp vd R ⟨kind, rt, rsp, rsize, ⟨osp, onum, osize, oel, ofl, opr, oect⟩, delay, ra, rn, rc, marked, e0, e1, e2, (some ⟨g, o, none⟩), 1, ec, err, smooth⟩ [e] rs → W'.cell? ⟨g, o, none⟩ = some (ZI ZQ e.kind) ∧ W'.cell? ⟨g, o + 1, none⟩ = some (ZI ZQ e.sp) ∧ W'.cell? ⟨g, o + 2, none⟩ = some (ZI ZQ e.num) ∧ W'.cell? ⟨g, o + 3, none⟩ = some (ZI ZQ e.n) from by
  intro W' h
  obtain ⟨g', o', hA, _, hz⟩ := h.ev.at (i := 0) (x := e) rfl
  cases hA
  exact ⟨by simpa using hz 0 _ (by omega) rfl, by simpa using hz 1 _ (by omega) rfl, by simpa using hz 2 _ (by omega) rfl, by simpa using hz 3 _ (by omega) rfl⟩)
 clear hz0 hen hce
 go_enter_defers Try.func15, Try.ntmps15
 go_wp2_with fail
 clear hW1 hRr k15 r17 r18 hbb
 refine wp_region_held_drew (S := (fun w' => RowSt w w' b base k vf vp vd R ⟨kind, rt, rsp, rsize, ⟨osp, onum, osize, oel, ofl, opr, oect⟩, delay, ra, rn, rc, marked, e0, e1, e2, (some ⟨g, o, none⟩), 1, ec, err, smooth⟩ [e] rs)) (by kernel_rfl) (HS1.out.later (below_drewN (Below.refl _ _) 1)) (fun hHeld => ?_)
 refine tkH 0 ?_ rfl (fun c a9 w9 h => leaves_same (row_results a9.tmps 29 _ (by decide)) a9.defers _ w9 h) ?_ ?_
 rotate_left
 ·intro w' hSw; (try dsimp only at hSw); have r17 := (RowSt.row hSw).cell 17; have r18 := (RowSt.row hSw).cell 18; obtain ⟨z0, z1, z2, z3⟩ := HEVC.out _ hSw; simp only [rwC, ZG, ZH, ZJ] at r17 r18; go_simp; try with_reducible rfl
 try simp only [ZP, ZA, ZB, ZC, ZD, ZE, ZF]
 refine tkH 1 ?_ rfl (fun c a9 w9 h => leaves_same (row_results a9.tmps 30 _ (by decide)) a9.defers _ w9 h) ?_ ?_
 rotate_left
 ·intro w' hSw; (try dsimp only at hSw); have r17 := (RowSt.row hSw).cell 17; have r18 := (RowSt.row hSw).cell 18; obtain ⟨z0, z1, z2, z3⟩ := HEVC.out _ hSw; simp only [rwC, ZG, ZH, ZJ] at r17 r18; go_simp; try with_reducible rfl
 try simp only [ZP, ZA, ZB, ZC, ZD, ZE, ZF]
 refine tkH 2 ?_ rfl (fun c a9 w9 h => leaves_same (row_results a9.tmps 31 _ (by decide)) a9.defers _ w9 h) ?_ ?_
 rotate_left
 ·intro w' hSw; (try dsimp only at hSw); have r17 := (RowSt.row hSw).cell 17; have r18 := (RowSt.row hSw).cell 18; obtain ⟨z0, z1, z2, z3⟩ := HEVC.out _ hSw; simp only [rwC, ZG, ZH, ZJ] at r17 r18; go_simp; try with_reducible rfl
 try simp only [ZP, ZA, ZB, ZC, ZD, ZE, ZF]
 refine tkH 3 ?_ rfl (fun c a9 w9 h => leaves_same (row_results a9.tmps 32 _ (by decide)) a9.defers _ w9 h) ?_ ?_
 rotate_left
 ·intro w' hSw; (try dsimp only at hSw); have r17 := (RowSt.row hSw).cell 17; have r18 := (RowSt.row hSw).cell 18; obtain ⟨z0, z1, z2, z3⟩ := HEVC.out _ hSw; simp only [rwC, ZG, ZH, ZJ] at r17 r18; go_simp; try with_reducible rfl
 try simp only [ZP, ZA, ZB, ZC, ZD, ZE, ZF]
 refine tkH 4 ?_ rfl (fun c a9 w9 h => leaves_same (row_results a9.tmps 33 _ (by decide)) a9.defers _ w9 h) ?_ ?_
 rotate_left
 ·intro w' hSw; (try dsimp only at hSw); have r17 := (RowSt.row hSw).cell 17; have r18 := (RowSt.row hSw).cell 18; obtain ⟨z0, z1, z2, z3⟩ := HEVC.out _ hSw; simp only [rwC, ZG, ZH, ZJ] at r17 r18; go_simp; try with_reducible rfl
 try simp only [ZP, ZA, ZB, ZC, ZD, ZE, ZF]
 refine tkH 5 ?_ rfl (fun c a9 w9 h => leaves_same (row_results a9.tmps 34 _ (by decide)) a9.defers _ w9 h) ?_ ?_
 rotate_left
 ·intro w' hSw; (try dsimp only at hSw); have r17 := (RowSt.row hSw).cell 17; have r18 := (RowSt.row hSw).cell 18; obtain ⟨z0, z1, z2, z3⟩ := HEVC.out _ hSw; simp only [rwC, ZG, ZH, ZJ] at r17 r18; go_simp; try with_reducible rfl
 try simp only [ZP, ZA, ZB, ZC, ZD, ZE, ZF]
 refine tkH 6 ?_ rfl (fun c a9 w9 h => leaves_same (row_results a9.tmps 35 _ (by decide)) a9.defers _ w9 h) ?_ ?_
 rotate_left
 ·intro w' hSw; (try dsimp only at hSw); have r17 := (RowSt.row hSw).cell 17; have r18 := (RowSt.row hSw).cell 18; obtain ⟨z0, z1, z2, z3⟩ := HEVC.out _ hSw; simp only [rwC, ZG, ZH, ZJ] at r17 r18; go_simp; try with_reducible rfl
 try simp only [ZP, ZA, ZB, ZC, ZD, ZE, ZF]
 refine tkH 7 ?_ rfl (fun c a9 w9 h => leaves_same (row_results a9.tmps 36 _ (by decide)) a9.defers _ w9 h) ?_ ?_
 rotate_left
 ·intro w' hSw; (try dsimp only at hSw); have r17 := (RowSt.row hSw).cell 17; have r18 := (RowSt.row hSw).cell 18; obtain ⟨z0, z1, z2, z3⟩ := HEVC.out _ hSw; simp only [rwC, ZG, ZH, ZJ] at r17 r18; go_simp; try with_reducible rfl
 try simp only [ZP, ZA, ZB, ZC, ZD, ZE, ZF]
 refine tkH 8 ?_ rfl (fun c a9 w9 h => leaves_same (row_results a9.tmps 37 _ (by decide)) a9.defers _ w9 h) ?_ ?_
 rotate_left
 ·intro w' hSw; (try dsimp only at hSw); have r17 := (RowSt.row hSw).cell 17; have r18 := (RowSt.row hSw).cell 18; obtain ⟨z0, z1, z2, z3⟩ := HEVC.out _ hSw; simp only [rwC, ZG, ZH, ZJ] at r17 r18; go_simp; try with_reducible rfl
 try simp only [ZP, ZA, ZB, ZC, ZD, ZE, ZF]
 refine tkH 9 ?_ rfl (fun c a9 w9 h => leaves_same (row_results a9.tmps 38 _ (by decide)) a9.defers _ w9 h) ?_ ?_
 rotate_left
 ·intro w' hSw; (try dsimp only at hSw); have r17 := (RowSt.row hSw).cell 17; have r18 := (RowSt.row hSw).cell 18; obtain ⟨z0, z1, z2, z3⟩ := HEVC.out _ hSw; simp only [rwC, ZG, ZH, ZJ] at r17 r18; go_simp; try with_reducible rfl
 try simp only [ZP, ZA, ZB, ZC, ZD, ZE, ZF]
 refine tkH 10 ?_ rfl (fun c a9 w9 h => leaves_same (row_results a9.tmps 39 _ (by decide)) a9.defers _ w9 h) ?_ ?_
 rotate_left
 ·intro w' hSw; (try dsimp only at hSw); have r17 := (RowSt.row hSw).cell 17; have r18 := (RowSt.row hSw).cell 18; obtain ⟨z0, z1, z2, z3⟩ := HEVC.out _ hSw; simp only [rwC, ZG, ZH, ZJ] at r17 r18; go_simp; try with_reducible rfl
 try simp only [ZP, ZA, ZB, ZC, ZD, ZE, ZF]
 refine tkR [11] ?_
 refine ZS rfl (fun K hK => ?_) ZN
 go_simp
 refine (HCE.out _).mono ?_
 rintro y5 u5 ⟨rfl, hb5⟩
 refine hK.out _ _ (RowSt.later hHeld hb5) (fun hHeld => ?_)
 clear hK K
 try simp only [ZP, ZA, ZB, ZC, ZD, ZE, ZF]
 refine tkH 12 ?_ rfl (fun c a9 w9 h => leaves_same (row_results a9.tmps 41 _ (by decide)) a9.defers _ w9 h) ?_ ?_
 rotate_left
 ·intro w' hSw; (try dsimp only at hSw); have r17 := (RowSt.row hSw).cell 17; have r18 := (RowSt.row hSw).cell 18; obtain ⟨z0, z1, z2, z3⟩ := HEVC.out _ hSw; simp only [rwC, ZG, ZH, ZJ] at r17 r18; go_simp; try with_reducible rfl
 try simp only [ZP, ZA, ZB, ZC, ZD, ZE, ZF]
 refine tkH 13 ?_ rfl (fun c a9 w9 h => leaves_same (row_results a9.tmps 42 _ (by decide)) a9.defers _ w9 h) ?_ ?_
 rotate_left
 ·intro w' hSw; (try dsimp only at hSw); have r17 := (RowSt.row hSw).cell 17; have r18 := (RowSt.row hSw).cell 18; obtain ⟨z0, z1, z2, z3⟩ := HEVC.out _ hSw; simp only [rwC, ZG, ZH, ZJ] at r17 r18; go_simp; try with_reducible rfl
 try simp only [ZP, ZA, ZB, ZC, ZD, ZE, ZF]
 refine tkH 14 ?_ rfl (fun c a9 w9 h => leaves_same (row_results a9.tmps 43 _ (by decide)) a9.defers _ w9 h) ?_ ?_
 rotate_left
 ·intro w' hSw; (try dsimp only at hSw); have r17 := (RowSt.row hSw).cell 17; have r18 := (RowSt.row hSw).cell 18; obtain ⟨z0, z1, z2, z3⟩ := HEVC.out _ hSw; simp only [rwC, ZG, ZH, ZJ] at r17 r18; go_simp; try with_reducible rfl
 try simp only [ZP, ZA, ZB, ZC, ZD, ZE, ZF]
 refine tkH 15 ?_ rfl (fun c a9 w9 h => leaves_same (row_results a9.tmps 44 _ (by decide)) a9.defers _ w9 h) ?_ ?_
 rotate_left
 ·intro w' hSw; (try dsimp only at hSw); have r17 := (RowSt.row hSw).cell 17; have r18 := (RowSt.row hSw).cell 18; obtain ⟨z0, z1, z2, z3⟩ := HEVC.out _ hSw; simp only [rwC, ZG, ZH, ZJ] at r17 r18; go_simp; try with_reducible rfl
 try simp only [ZP, ZA, ZB, ZC, ZD, ZE, ZF]
 refine tkH 16 ?_ rfl (fun c a9 w9 h => leaves_same (row_results a9.tmps 45 _ (by decide)) a9.defers _ w9 h) ?_ ?_
 rotate_left
 ·intro w' hSw; (try dsimp only at hSw); have r17 := (RowSt.row hSw).cell 17; have r18 := (RowSt.row hSw).cell 18; obtain ⟨z0, z1, z2, z3⟩ := HEVC.out _ hSw; simp only [rwC, ZG, ZH, ZJ] at r17 r18; go_simp; try with_reducible rfl
 try simp only [ZP, ZA, ZB, ZC, ZD, ZE, ZF]
 refine tkH 17 ?_ rfl (fun c a9 w9 h => leaves_same (row_results a9.tmps 46 _ (by decide)) a9.defers _ w9 h) ?_ ?_
 rotate_left
 ·intro w' hSw; (try dsimp only at hSw); have r17 := (RowSt.row hSw).cell 17; have r18 := (RowSt.row hSw).cell 18; obtain ⟨z0, z1, z2, z3⟩ := HEVC.out _ hSw; simp only [rwC, ZG, ZH, ZJ] at r17 r18; go_simp; try with_reducible rfl
 try simp only [ZP, ZA, ZB, ZC, ZD, ZE, ZF]
 refine tkH 18 ?_ rfl (fun c a9 w9 h => leaves_same (row_results a9.tmps 47 _ (by decide)) a9.defers _ w9 h) ?_ ?_
 rotate_left
 ·intro w' hSw; (try dsimp only at hSw); have r17 := (RowSt.row hSw).cell 17; have r18 := (RowSt.row hSw).cell 18; obtain ⟨z0, z1, z2, z3⟩ := HEVC.out _ hSw; simp only [rwC, ZG, ZH, ZJ] at r17 r18; go_simp; try with_reducible rfl
 try simp only [ZP, ZA, ZB, ZC, ZD, ZE, ZF]
 refine tkH 19 ?_ rfl (fun c a9 w9 h => leaves_same (row_results a9.tmps 48 _ (by decide)) a9.defers _ w9 h) ?_ ?_
 rotate_left
 ·intro w' hSw; (try dsimp only at hSw); have r17 := (RowSt.row hSw).cell 17; have r18 := (RowSt.row hSw).cell 18; obtain ⟨z0, z1, z2, z3⟩ := HEVC.out _ hSw; simp only [rwC, ZG, ZH, ZJ] at r17 r18; go_simp; try with_reducible rfl
 try simp only [ZP, ZA, ZB, ZC, ZD, ZE, ZF]
 refine tkH 20 ?_ rfl (fun c a9 w9 h => leaves_same (row_results a9.tmps 49 _ (by decide)) a9.defers _ w9 h) ?_ ?_
 rotate_left
 ·intro w' hSw; (try dsimp only at hSw); have r17 := (RowSt.row hSw).cell 17; have r18 := (RowSt.row hSw).cell 18; obtain ⟨z0, z1, z2, z3⟩ := HEVC.out _ hSw; simp only [rwC, ZG, ZH, ZJ] at r17 r18; go_simp; try with_reducible rfl
 try simp only [ZP, ZA, ZB, ZC, ZD, ZE, ZF]
 refine tkH 21 ?_ rfl (fun c a9 w9 h => leaves_same (row_results a9.tmps 50 _ (by decide)) a9.defers _ w9 h) ?_ ?_
 rotate_left
 ·intro w' hSw; (try dsimp only at hSw); have r17 := (RowSt.row hSw).cell 17; have r18 := (RowSt.row hSw).cell 18; obtain ⟨z0, z1, z2, z3⟩ := HEVC.out _ hSw; simp only [rwC, ZG, ZH, ZJ] at r17 r18; go_simp; try with_reducible rfl
 try simp only [ZP, ZA, ZB, ZC, ZD, ZE, ZF]
 refine tkH 22 ?_ rfl (fun c a9 w9 h => leaves_same (row_results a9.tmps 51 _ (by decide)) a9.defers _ w9 h) ?_ ?_
 rotate_left
 ·intro w' hSw; (try dsimp only at hSw); have r17 := (RowSt.row hSw).cell 17; have r18 := (RowSt.row hSw).cell 18; obtain ⟨z0, z1, z2, z3⟩ := HEVC.out _ hSw; simp only [rwC, ZG, ZH, ZJ] at r17 r18; go_simp; try with_reducible rfl
 try simp only [ZP, ZA, ZB, ZC, ZD, ZE, ZF]
 refine tkH 23 ?_ rfl (fun c a9 w9 h => leaves_same (row_results a9.tmps 52 _ (by decide)) a9.defers _ w9 h) ?_ ?_
 rotate_left
 ·intro w' hSw; (try dsimp only at hSw); have r17 := (RowSt.row hSw).cell 17; have r18 := (RowSt.row hSw).cell 18; obtain ⟨z0, z1, z2, z3⟩ := HEVC.out _ hSw; simp only [rwC, ZG, ZH, ZJ] at r17 r18; go_simp; try with_reducible rfl
 try simp only [ZP, ZA, ZB, ZC, ZD, ZE, ZF]
 refine tkH 24 ?_ rfl (fun c a9 w9 h => leaves_same (row_results a9.tmps 53 _ (by decide)) a9.defers _ w9 h) ?_ ?_
 rotate_left
 ·intro w' hSw; (try dsimp only at hSw); have r17 := (RowSt.row hSw).cell 17; have r18 := (RowSt.row hSw).cell 18; obtain ⟨z0, z1, z2, z3⟩ := HEVC.out _ hSw; simp only [rwC, ZG, ZH, ZJ] at r17 r18; go_simp; try with_reducible rfl
 try simp only [ZP, ZA, ZB, ZC, ZD, ZE, ZF]
 have hs7 : RowSt w u5 b base k vf vp vd R ⟨kind, rt, rsp, rsize, ⟨osp, onum, osize, oel, ofl, opr, oect⟩, delay, ra, rn, rc, marked, e0, e1, e2, (some ⟨g, o, none⟩), 1, ec, err, smooth⟩ [e] rs := hHeld
 have c15 := hs7.kn.blk.cell 15
 have f15 := hs7.kn.blk.frozen 15
 simp only [knC, ZG, ZH, ZJ] at c15
 have hc15 : (knC k vf vp vd).setIfInBounds 15 (.bool false) = knC k vf vp vd := by
  have hsh' := HSH.out
  obtain ⟨_, _, _, _, _, _, shut, _, _, _, _, _, _, _⟩ := k
  simp only at hsh'
  subst hsh'
  rfl
 refine tkR [25] ?_
 refine ZS rfl (fun K hK => ?_) ZN
 go_simp
 refine hK.out _ _ (RowSt.put (k' := k) hHeld 15 (.bool false) hc15 rfl rfl rfl) (fun hHeld => ?_)
 clear hK K
 try simp only [ZP, ZA, ZB, ZC, ZD, ZE, ZF]
 refine wpAnyH_done (by kernel_rfl) ?_ _
 have hs8 : RowSt w _ b base k vf vp vd R ⟨kind, rt, rsp, rsize, ⟨osp, onum, osize, oel, ofl, opr, oect⟩, delay, ra, rn, rc, marked, e0, e1, e2, (some ⟨g, o, none⟩), 1, ec, err, smooth⟩ [e] rs := hHeld
 have HS8 := hide hs8
 have k15 := hs8.kn.blk.cell 15
 have r17 := hs8.row.cell 17
 simp only [knC, rwC, ZG, ZH, ZJ] at k15 r17
 rw [HSH.out] at k15
 clear hs8 hs7 c15 f15 hc15
 go_wp2_with fail
 with_reducible refine (HNO.out _ _).mono ?_
 rintro y6 u6 ⟨rfl, rfl⟩
 exact row_throws rfl HS8.out.res HS8.out.bl (by rw [HRR.out]; exact Nat.le_refl _) HBB.out rfl
end Go.Proofs.Ytidfngcclbhoaaa
