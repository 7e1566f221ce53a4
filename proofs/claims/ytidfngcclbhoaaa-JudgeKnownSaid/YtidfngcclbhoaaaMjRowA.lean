/-
 Rows of the program: got, timeout: 2 texts in one (JgRowL, JgRowM).
-/
import Derived.Test.YtidfngcclbhoaaaJgRow
import Derived.Deep.RegionHeld3
import Derived.Laws.EntriesVeiled
namespace Go.Proofs.Ytidfngcclbhoaaa
open List renaming getElem_toArray → ZA, getElem_cons_zero → ZB, getElem_cons_succ → ZC, setIfInBounds_toArray → ZD, set_cons_zero → ZE, set_cons_succ → ZF, getElem?_toArray → ZG, getElem?_cons_zero → ZH, getElem?_cons_succ → ZJ
open Go.AllReadyH renaming cons → ZS, nil → ZN
open Go.Act renaming put → ZP
open Go.Value renaming int → ZI
open Go.IntKind renaming i64 → ZQ
set_option linter.unusedSimpArgs false
set_option linter.unusedVariables false
open Go.RowKit Go.Shelf
set_option maxRecDepth 100000 in
set_option maxHeartbeats 8000000 in
theorem row_zero (b base : Nat) (k : KN) (vf vp vd : Value) (r : RW) (rs : List RGJ) (es : List EVJ) (w : World) (hK : KnAt w b base k vf vp vd) (hR : LieAt rgL 2 w base r.ra rs) (hE : LieAt evL 4 w base r.ea es) (hen : es.length = r.en) (hel : r.en ≤ 2000)
  (hsh : k.shut = false) (herr : r.err = 0) (hcl : es.any closesP = false) (ht : 0 ≤ r.t ∧ r.t ≤ 9007199254740991) (hk : r.kind = 0) (hlate : k.t ≤ r.t) (sres : Except Int KN) (P : KN → Prop)
  (hstep : ∀ W, KnAt W b base { k with t := r.t } vf vp vd → LieAt rgL 2 W base r.ra rs → Calls Try.prog 26 #[.pointer (some ⟨b, 0, none⟩), .agg (rwC r)] W (StepPost b base W sres))
  (hP1 : ∀ k1, sres = .ok k1 → P k1) (hPe : ∀ k1 e k2, P k1 → e ∈ es → eventP k1 r rs e = .ok k2 → P k2) (hPl : ∀ k1, P k1 → k1.pieces.length ≤ 1900)
  (hev : ∀ k1 e W vf vp vd, P k1 → e ∈ es → KnAt W b base k1 vf vp vd → LieAt rgL 2 W base r.ra rs → Calls Try.prog 32 #[.pointer (some ⟨b, 0, none⟩), .agg (rwC r), .agg #[ZI ZQ e.kind, ZI ZQ e.sp, ZI ZQ e.num, ZI ZQ e.n]] W (StepPost b base W (eventP k1 r rs e))) :
  Calls Try.prog 15 #[.pointer (some ⟨b, 0, none⟩), .agg (rwC r)] w (RowPost b base w (goesP r rs es sres)) := by
 obtain ⟨kind, rt, rsp, rsize, ⟨osp, onum, osize, oel, ofl, opr, oect⟩, delay, ra, rn, rc, marked, e0, e1, e2, ea, en, ec, err, smooth⟩ := r
 simp only at hR hE hen hel herr ht hk hlate ⊢
 subst herr
 subst hk
 have HST := hide hstep
 have HEV := hide hev
 have HP1 := hide hP1
 have HPE := hide hPe
 have HPL := hide hPl
 clear hstep hev hP1 hPe hPl
 have hmf : ∀ (fn : Fn) (first cap : Array Value) (w : World), (Instr.makeFunc fn first cap).run Try.prog w = .ok (.func fn first cap) w := fun _ _ _ _ => rfl
 have hbb : base ≤ w.heap.size := Nat.le_of_lt (Nat.lt_of_le_of_lt hK.ge hK.blk.lt)
 have ha : Below w.heap.size w ((w.alloc (.cells (rwC ⟨0, rt, rsp, rsize, ⟨osp, onum, osize, oel, ofl, opr, oect⟩, delay, ra, rn, rc, marked, e0, e1, e2, ea, en, ec, 0, smooth⟩) 36)).alloc (.cells #[ZI ZQ 0] 3)) := ((Below.refl _ _).alloc (Nat.le_refl _) _).alloc (by simp) _
 have hs0 : RowSt w ((w.alloc (.cells (rwC ⟨0, rt, rsp, rsize, ⟨osp, onum, osize, oel, ofl, opr, oect⟩, delay, ra, rn, rc, marked, e0, e1, e2, ea, en, ec, 0, smooth⟩) 36)).alloc (.cells #[ZI ZQ 0] 3)) b base k vf vp vd w.heap.size ⟨0, rt, rsp, rsize, ⟨osp, onum, osize, oel, ofl, opr, oect⟩, delay, ra, rn, rc, marked, e0, e1, e2, ea, en, ec, 0, smooth⟩ es rs := by
  refine ⟨hK.later ha, (Blk.new _ _ _).alloc _, ?_, hR.later (ha.mono hbb), hE.later (ha.mono hbb), Far.of_below ha hbb⟩
  have := Blk.new (w.alloc (.cells (rwC ⟨0, rt, rsp, rsize, ⟨osp, onum, osize, oel, ofl, opr, oect⟩, delay, ra, rn, rc, marked, e0, e1, e2, ea, en, ec, 0, smooth⟩) 36)) 3 #[ZI ZQ 0]
  simpa using this
 obtain ⟨res, hres⟩ : ∃ x, goesP ⟨0, rt, rsp, rsize, ⟨osp, onum, osize, oel, ofl, opr, oect⟩, delay, ra, rn, rc, marked, e0, e1, e2, ea, en, ec, 0, smooth⟩ rs es sres = x := ⟨_, rfl⟩
 rw [hres]
 have HRES := hide hres
 clear hres
 obtain ⟨W1, hW1⟩ : ∃ x, (w.alloc (.cells (rwC ⟨0, rt, rsp, rsize, ⟨osp, onum, osize, oel, ofl, opr, oect⟩, delay, ra, rn, rc, marked, e0, e1, e2, ea, en, ec, 0, smooth⟩) 36)).alloc (.cells #[ZI ZQ 0] 3) = x := ⟨_, rfl⟩
 obtain ⟨R, hRr⟩ : ∃ x, w.heap.size = x := ⟨_, rfl⟩
 have HRR := hide hRr
 have HBB := hide hbb
 have HY := hide (fun rule W => unless_yes rule W)
 have HNO := hide (fun rule W => unless_no rule W)
 have HCO := hide (fun W h => con_ev ea en ec es W hen hel h)
 rw [hcl] at HCO
 have HIS := hide (fun W => jis_any rt W)
 rw [show (decide (0 ≤ rt) && decide (rt ≤ 9007199254740991)) = true by simp [ht.1, ht.2]] at HIS
 rw [hW1, hRr] at hs0
 have HS1 := hide hs0
 have k15 := hs0.kn.blk.cell 15
 have r17 := hs0.row.cell 17
 have r18 := hs0.row.cell 18
 simp only [knC, rwC, ZG, ZH, ZJ] at k15 r17 r18
 rw [hsh] at k15
 unfold rwC at hW1 ⊢
 clear hs0 ha hR hE hcl hK
 go_enter_defers Try.func15, Try.ntmps15
 go_wp2_with fail
 clear hW1 hRr k15 r17 r18 hbb
 with_reducible refine (HCO.out _ (HS1.out.ev.up HS1.out.ge)).mono ?_
 rintro y1 W2 ⟨rfl, hb1⟩
 have hs2 := HS1.out.later hb1
 have HS2 := hide hs2
 clear HS1 hb1 HCO
 go_wp2_with fail
 with_reducible refine (HY.out _ _).mono ?_
 rintro y2 u2 ⟨rfl, rfl⟩
 have r1 := hs2.row.cell 1
 have k10 := hs2.kn.blk.cell 10
 simp only [knC, rwC, ZG, ZH, ZJ] at r1 k10
 clear hs2
 go_wp2_with fail
 go_quiet (first | (go_at_call 25; with_reducible exact quiet24 (HIS.out _)) | (go_at_call 23; with_reducible exact quiet24 (HY.out _ _)))
 have hs3 := HS2.out.later (below_drewN (Below.refl _ _) nq)
 obtain ⟨W3, hW3⟩ : ∃ x, W2.drewN nq = x := ⟨_, rfl⟩
 rw [hW3] at hs3
 try rw [hW3]
 have HS3 := hide hs3
 clear r1 k10 hW3 HS2
 have r1 := hs3.row.cell 1
 have k10 := hs3.kn.blk.cell 10
 have f10 := hs3.kn.blk.frozen 10
 simp only [knC, rwC, ZG, ZH, ZJ] at r1 k10
 clear hs3
 go_upto_region 13 with (fail)
 have hs4 := HS3.out.put (k' := { k with t := rt }) 10 (ZI ZQ rt) rfl rfl rfl rfl
 obtain ⟨W4, hW4⟩ : ∃ x, W3.setCell ⟨b, 10, none⟩ (ZI ZQ rt) = x := ⟨_, rfl⟩
 rw [hW4] at hs4
 rw [hW4]
 have HS4 := hide hs4
 clear r1 k10 f10 hW4 HS3
 go_upto_region 14 with (fail)
 have hs5 := HS4.out.later ((Below.refl _ _).alloc (Nat.le_refl _) (.cells #[.func (.func 26) #[] #[], .func (.func 27) #[] #[], .func (.func 28) #[] #[], .func (.func 29) #[] #[], .func (.func 26) #[] #[], .func (.func 26) #[] #[], .func (.func 30) #[] #[], .func (.func 31) #[] #[], .func (.func 31) #[] #[]] 84))
 have hst := Blk.new W4 84 #[.func (.func 26) #[] #[], .func (.func 27) #[] #[], .func (.func 28) #[] #[], .func (.func 29) #[] #[], .func (.func 26) #[] #[], .func (.func 26) #[] #[], .func (.func 30) #[] #[], .func (.func 31) #[] #[], .func (.func 31) #[] #[]]
 obtain ⟨W5, hW5⟩ : ∃ x, W4.alloc (.cells #[.func (.func 26) #[] #[], .func (.func 27) #[] #[], .func (.func 28) #[] #[], .func (.func 29) #[] #[], .func (.func 26) #[] #[], .func (.func 26) #[] #[], .func (.func 30) #[] #[], .func (.func 31) #[] #[], .func (.func 31) #[] #[]] 84) = x := ⟨_, rfl⟩
 obtain ⟨X, hX⟩ : ∃ x, W4.heap.size = x := ⟨_, rfl⟩
 rw [hW5] at hs5 hst
 rw [hX] at hst
 rw [hW5, hX]
 clear hW5 hX HS4
 have r0 := hs5.row.cell 0
 simp only [rwC, ZG, ZH, ZJ] at r0
 have HS5 := hide hs5
 have HST5 := hide hst
 have hs5d : RowSt w W5.drew b base { k with t := rt } vf vp vd R ⟨0, rt, rsp, rsize, ⟨osp, onum, osize, oel, ofl, opr, oect⟩, delay, ra, rn, rc, marked, e0, e1, e2, ea, en, ec, 0, smooth⟩ es rs := hs5.later (below_drewN (Below.refl _ _) 1)
 have HS5D := hide hs5d
 clear hs5 hst hs5d
 go_wp2_with fail
 clear r0
 cases sres with
 | error n =>
  refine wp_region_held_drew (S := (fun w' => Blk w' R 36 (rwC ⟨0, rt, rsp, rsize, ⟨osp, onum, osize, oel, ofl, opr, oect⟩, delay, ra, rn, rc, marked, e0, e1, e2, ea, en, ec, 0, smooth⟩) ∧ Blk w' X 84 #[.func (.func 26) #[] #[], .func (.func 27) #[] #[], .func (.func 28) #[] #[], .func (.func 29) #[] #[], .func (.func 26) #[] #[], .func (.func 26) #[] #[], .func (.func 30) #[] #[], .func (.func 31) #[] #[], .func (.func 31) #[] #[]])) (by kernel_rfl) (⟨HS5.out.row.drew, HST5.out.drew⟩) (fun hHeld => ?_)
  refine tkH 0 ?_ rfl (fun c a9 w9 h => leaves_same (row_results a9.tmps 98 _ (by decide)) a9.defers _ w9 h) ?_ ?_
  rotate_left
  ·intro w' hSw; (try dsimp only at hSw); obtain ⟨ha, hb⟩ := hSw; have r0 := ha.cell 0; have x0 := hb.cell 0; simp only [rwC, ZG, ZH, ZJ] at r0 x0; go_simp; try with_reducible rfl
  try simp only [ZP, ZA, ZB, ZC, ZD, ZE, ZF]
  refine tkH 1 ?_ rfl (fun c a9 w9 h => leaves_same (row_results a9.tmps 99 _ (by decide)) a9.defers _ w9 h) ?_ ?_
  rotate_left
  ·intro w' hSw; (try dsimp only at hSw); obtain ⟨ha, hb⟩ := hSw; have r0 := ha.cell 0; have x0 := hb.cell 0; simp only [rwC, ZG, ZH, ZJ] at r0 x0; go_simp; try with_reducible rfl
  try simp only [ZP, ZA, ZB, ZC, ZD, ZE, ZF]
  refine tkH 2 ?_ rfl (fun c a9 w9 h => leaves_same (row_results a9.tmps 100 _ (by decide)) a9.defers _ w9 h) ?_ ?_
  rotate_left
  ·intro w' hSw; (try dsimp only at hSw); obtain ⟨ha, hb⟩ := hSw; have r0 := ha.cell 0; have x0 := hb.cell 0; simp only [rwC, ZG, ZH, ZJ] at r0 x0; go_simp; try with_reducible rfl
  try simp only [ZP, ZA, ZB, ZC, ZD, ZE, ZF]
  refine tkH 3 ?_ rfl (fun c a9 w9 h => leaves_same (row_results a9.tmps 101 _ (by decide)) a9.defers _ w9 h) ?_ ?_
  rotate_left
  ·intro w' hSw; (try dsimp only at hSw); obtain ⟨ha, hb⟩ := hSw; have r0 := ha.cell 0; have x0 := hb.cell 0; simp only [rwC, ZG, ZH, ZJ] at r0 x0; go_simp; try with_reducible rfl
  try simp only [ZP, ZA, ZB, ZC, ZD, ZE, ZF]
  refine tkH 4 ?_ rfl (fun c a9 w9 h => leaves_same (row_results a9.tmps 102 _ (by decide)) a9.defers _ w9 h) ?_ ?_
  rotate_left
  ·intro w' hSw; (try dsimp only at hSw); obtain ⟨ha, hb⟩ := hSw; have r0 := ha.cell 0; have x0 := hb.cell 0; simp only [rwC, ZG, ZH, ZJ] at r0 x0; go_simp; try with_reducible rfl
  try simp only [ZP, ZA, ZB, ZC, ZD, ZE, ZF]
  refine tkR [5] ?_
  refine ZS rfl (fun K hK => ?_) ZN
  rw [if_pos (by rfl)]
  refine wp_load_row 36 (.tmp 3) rfl R rfl 36 (rwC ⟨0, rt, rsp, rsize, ⟨osp, onum, osize, oel, ofl, opr, oect⟩, delay, ra, rn, rc, marked, e0, e1, e2, ea, en, ec, 0, smooth⟩) (0, 0) _ HS5.out.row.drew Try.underlying36 rfl row_size ?_
  refine hK.out _ _ (⟨HS5.out.row.drew, HST5.out.drew⟩) (fun hHeld => ?_)
  clear hK K
  try simp only [ZP, ZA, ZB, ZC, ZD, ZE, ZF]
  refine tkR [6] ?_
  refine ZS rfl (fun K hK => ?_) ZN
  go_simp
  go_at_call 26
  with_reducible refine (HST.out _ HS5D.out.kn HS5D.out.rg).mono ?_
  rintro y5 W6 ⟨rfl, hf5⟩
  have hs6 := HS5D.out.bl.trans hf5
  exact row_throws rfl (hf5.kept HS5.out.res.drew (by decide) (by decide) (by decide) (by decide)) hs6 (by rw [HRR.out]; exact Nat.le_refl _) HBB.out HRES.out.symm
 | ok k1 =>
  refine wp_region_held_drew (S := (fun w' => Blk w' R 36 (rwC ⟨0, rt, rsp, rsize, ⟨osp, onum, osize, oel, ofl, opr, oect⟩, delay, ra, rn, rc, marked, e0, e1, e2, ea, en, ec, 0, smooth⟩) ∧ Blk w' X 84 #[.func (.func 26) #[] #[], .func (.func 27) #[] #[], .func (.func 28) #[] #[], .func (.func 29) #[] #[], .func (.func 26) #[] #[], .func (.func 26) #[] #[], .func (.func 30) #[] #[], .func (.func 31) #[] #[], .func (.func 31) #[] #[]])) (by kernel_rfl) (⟨HS5.out.row.drew, HST5.out.drew⟩) (fun hHeld => ?_)
  refine tkH 0 ?_ rfl (fun c a9 w9 h => leaves_same (row_results a9.tmps 98 _ (by decide)) a9.defers _ w9 h) ?_ ?_
  rotate_left
  ·intro w' hSw; (try dsimp only at hSw); obtain ⟨ha, hb⟩ := hSw; have r0 := ha.cell 0; have x0 := hb.cell 0; simp only [rwC, ZG, ZH, ZJ] at r0 x0; go_simp; try with_reducible rfl
  try simp only [ZP, ZA, ZB, ZC, ZD, ZE, ZF]
  refine tkH 1 ?_ rfl (fun c a9 w9 h => leaves_same (row_results a9.tmps 99 _ (by decide)) a9.defers _ w9 h) ?_ ?_
  rotate_left
  ·intro w' hSw; (try dsimp only at hSw); obtain ⟨ha, hb⟩ := hSw; have r0 := ha.cell 0; have x0 := hb.cell 0; simp only [rwC, ZG, ZH, ZJ] at r0 x0; go_simp; try with_reducible rfl
  try simp only [ZP, ZA, ZB, ZC, ZD, ZE, ZF]
  refine tkH 2 ?_ rfl (fun c a9 w9 h => leaves_same (row_results a9.tmps 100 _ (by decide)) a9.defers _ w9 h) ?_ ?_
  rotate_left
  ·intro w' hSw; (try dsimp only at hSw); obtain ⟨ha, hb⟩ := hSw; have r0 := ha.cell 0; have x0 := hb.cell 0; simp only [rwC, ZG, ZH, ZJ] at r0 x0; go_simp; try with_reducible rfl
  try simp only [ZP, ZA, ZB, ZC, ZD, ZE, ZF]
  refine tkH 3 ?_ rfl (fun c a9 w9 h => leaves_same (row_results a9.tmps 101 _ (by decide)) a9.defers _ w9 h) ?_ ?_
  rotate_left
  ·intro w' hSw; (try dsimp only at hSw); obtain ⟨ha, hb⟩ := hSw; have r0 := ha.cell 0; have x0 := hb.cell 0; simp only [rwC, ZG, ZH, ZJ] at r0 x0; go_simp; try with_reducible rfl
  try simp only [ZP, ZA, ZB, ZC, ZD, ZE, ZF]
  refine tkH 4 ?_ rfl (fun c a9 w9 h => leaves_same (row_results a9.tmps 102 _ (by decide)) a9.defers _ w9 h) ?_ ?_
  rotate_left
  ·intro w' hSw; (try dsimp only at hSw); obtain ⟨ha, hb⟩ := hSw; have r0 := ha.cell 0; have x0 := hb.cell 0; simp only [rwC, ZG, ZH, ZJ] at r0 x0; go_simp; try with_reducible rfl
  try simp only [ZP, ZA, ZB, ZC, ZD, ZE, ZF]
  refine tkR [5] ?_
  refine ZS rfl (fun K hK => ?_) ZN
  rw [if_pos (by rfl)]
  refine wp_load_row 36 (.tmp 3) rfl R rfl 36 (rwC ⟨0, rt, rsp, rsize, ⟨osp, onum, osize, oel, ofl, opr, oect⟩, delay, ra, rn, rc, marked, e0, e1, e2, ea, en, ec, 0, smooth⟩) (0, 0) _ HS5.out.row.drew Try.underlying36 rfl row_size ?_
  refine hK.out _ _ (⟨HS5.out.row.drew, HST5.out.drew⟩) (fun hHeld => ?_)
  clear hK K
  try simp only [ZP, ZA, ZB, ZC, ZD, ZE, ZF]
  refine tkR [6] ?_
  refine ZS rfl (fun K hK => ?_) ZN
  go_simp
  go_at_call 26
  with_reducible refine (HST.out _ HS5D.out.kn HS5D.out.rg).mono ?_
  rintro y5 W6 ⟨rfl, vf1, vp1, vd1, hk1, hf5⟩
  refine hK.out _ _ (⟨hf5.kept HS5.out.row.drew (by decide) (by decide) (by decide) (by decide), hf5.kept HST5.out.drew (by decide) (by decide) (by decide) (by decide)⟩) (fun hHeld => ?_)
  clear hK K
  try simp only [ZP, ZA, ZB, ZC, ZD, ZE, ZF]
  refine wpAnyH_done (by kernel_rfl) ?_ _
  have hs6 := HS5D.out.far hf5 hk1
  have hp1 := HP1.out k1 rfl
  have HS6 := hide hs6
  have r17 := hs6.row.cell 17
  simp only [rwC, ZG, ZH, ZJ] at r17
  clear hs6 hk1 hf5 HS5 HS5D HST5 HST HP1
  go_wp2_with fail
  clear r17
  go_loopg [108] en (fun kx s108 wr => ∃ (i : Nat) (k2 : KN) (vf2 vp2 vd2 : Value), s108 = ZI ZQ i ∧ i ≤ en ∧ en - i ≤ kx ∧ P k2 ∧ Hid (eventsP ⟨0, rt, rsp, rsize, ⟨osp, onum, osize, oel, ofl, opr, oect⟩, delay, ra, rn, rc, marked, e0, e1, e2, ea, en, ec, 0, smooth⟩ rs k1 es = eventsP ⟨0, rt, rsp, rsize, ⟨osp, onum, osize, oel, ofl, opr, oect⟩, delay, ra, rn, rc, marked, e0, e1, e2, ea, en, ec, 0, smooth⟩ rs k2 (es.drop i)) ∧ RowSt w wr b base k2 vf2 vp2 vd2 R ⟨0, rt, rsp, rsize, ⟨osp, onum, osize, oel, ofl, opr, oect⟩, delay, ra, rn, rc, marked, e0, e1, e2, ea, en, ec, 0, smooth⟩ es rs)
  case atStart => exact ⟨0, k1, vf1, vp1, vd1, rfl, by omega, by omega, hp1, rfl, HS6.out⟩
  case round =>
   clear HS6 hp1
   obtain ⟨i, k2, vf2, vp2, vd2, rfl, hi, hkx, hp2, heq, hs⟩ := hrel
   have HS := hide hs
   have HP2 := hide hp2
   clear hp2
   by_cases hlt : i < en
   ·have hir : i < es.length := by rw [hen]; exact hlt
    obtain ⟨e, he⟩ : ∃ e, es[i]? = some e := ⟨_, List.getElem?_eq_getElem hir⟩
    have hd : es.drop i = e :: es.drop (i + 1) := by
     rw [List.drop_eq_getElem_cons hir]
     congr 1
     rw [List.getElem?_eq_getElem hir] at he
     exact Option.some.inj he
    have hmem : e ∈ es := List.mem_of_getElem? he
    obtain ⟨g, o, rfl, hg, hz⟩ := hs.ev.at he
    have z0 := hz 0 _ (by omega) rfl
    have z1 := hz 1 _ (by omega) rfl
    have z2 := hz 2 _ (by omega) rfl
    have z3 := hz 3 _ (by omega) rfl
    simp only [Nat.add_zero] at z0
    have hin : (i : Int) < (en : Int) := by omega
    have HEQ : Hid (eventsP ⟨0, rt, rsp, rsize, ⟨osp, onum, osize, oel, ofl, opr, oect⟩, delay, ra, rn, rc, marked, e0, e1, e2, (some ⟨g, o, none⟩), en, ec, 0, smooth⟩ rs k1 es = match eventP k2 ⟨0, rt, rsp, rsize, ⟨osp, onum, osize, oel, ofl, opr, oect⟩, delay, ra, rn, rc, marked, e0, e1, e2, (some ⟨g, o, none⟩), en, ec, 0, smooth⟩ rs e with
      | .ok k3 => eventsP ⟨0, rt, rsp, rsize, ⟨osp, onum, osize, oel, ofl, opr, oect⟩, delay, ra, rn, rc, marked, e0, e1, e2, (some ⟨g, o, none⟩), en, ec, 0, smooth⟩ rs k3 (es.drop (i + 1))
      | .error n => .error n) := by
     show _ = _
     rw [heq, hd]
     rfl
    have hbx : Below wr.heap.size wr (wr.alloc (.cells #[ZI ZQ e.kind, ZI ZQ e.sp, ZI ZQ e.num, ZI ZQ e.n] 46)) := (Below.refl _ _).alloc (Nat.le_refl _) _
    have HSX := hide (hs.later hbx)
    have HMEM := hide hmem
    clear heq hd hir he hz hs hbx hmem
    go_wp2_with (refine wpList_load_row rfl 36 (.tmp 3) rfl R rfl 36 (rwC ⟨0, rt, rsp, rsize, ⟨osp, onum, osize, oel, ofl, opr, oect⟩, delay, ra, rn, rc, marked, e0, e1, e2, (some ⟨g, o, none⟩), en, ec, 0, smooth⟩) (0, 0) _ HSX.out.row Try.underlying36 rfl row_size ?_)
    with_reducible refine (HEV.out k2 e _ vf2 vp2 vd2 HP2.out HMEM.out HSX.out.kn HSX.out.rg).mono ?_
    cases hq : eventP k2 ⟨0, rt, rsp, rsize, ⟨osp, onum, osize, oel, ofl, opr, oect⟩, delay, ra, rn, rc, marked, e0, e1, e2, (some ⟨g, o, none⟩), en, ec, 0, smooth⟩ rs e with
    | error n =>
     rintro y7 W7 ⟨rfl, hf7⟩
     have HE : Hid (res = .error n) := by
      show _ = _
      rw [← HRES.out]
      unfold goesP
      simp only
      rw [HEQ.out, hq]
     exact row_throws rfl (hf7.kept HSX.out.res (by decide) (by decide) (by decide) (by decide)) (HSX.out.bl.trans hf7) (by rw [HRR.out]; exact Nat.le_refl _) HBB.out HE.out
    | ok k3 =>
     rintro y7 W7 ⟨rfl, vf3, vp3, vd3, hk3, hf7⟩
     have hs7 := HSX.out.far hf7 hk3
     have HS7 := hide hs7
     have HP3 := hide (HPE.out k2 e k3 HP2.out HMEM.out hq)
     rw [hq] at HEQ
     have HEQ7 := hide HEQ.out
     clear hs7 hk3 hf7 hq HEQ HSX HS z0 z1 z2 z3
     go_wp2_with fail
     go_roundg (en - (i + 1))
     case rel => exact ⟨i + 1, k3, vf3, vp3, vd3, by go_num, by omega, by omega, HP3.out, HEQ7.out, HS7.out⟩
     case measure => omega
   ·obtain rfl : en = i := by omega
    have hin : ¬ (en : Int) < (en : Int) := by omega
    have HEQ : Hid (eventsP ⟨0, rt, rsp, rsize, ⟨osp, onum, osize, oel, ofl, opr, oect⟩, delay, ra, rn, rc, marked, e0, e1, e2, ea, en, ec, 0, smooth⟩ rs k1 es = .ok k2) := by
     show _ = _
     rw [heq, List.drop_of_length_le (by rw [hen]; exact Nat.le_refl _)]
     rfl
    clear heq
    have HTI := hide (fun W => timed_any ⟨0, rt, rsp, rsize, ⟨osp, onum, osize, oel, ofl, opr, oect⟩, delay, ra, rn, rc, marked, e0, e1, e2, ea, en, ec, 0, smooth⟩ W)
    rw [show timedB ⟨0, rt, rsp, rsize, ⟨osp, onum, osize, oel, ofl, opr, oect⟩, delay, ra, rn, rc, marked, e0, e1, e2, ea, en, ec, 0, smooth⟩ = false from rfl] at HTI
    clear hs
    go_wp2_with (refine wpList_load_row rfl 36 (.tmp 3) rfl R rfl 36 (rwC ⟨0, rt, rsp, rsize, ⟨osp, onum, osize, oel, ofl, opr, oect⟩, delay, ra, rn, rc, marked, e0, e1, e2, ea, en, ec, 0, smooth⟩) (0, 0) _ HS.out.row Try.underlying36 rfl row_size ?_)
    with_reducible refine (HTI.out _).mono ?_
    rintro y8 W8 ⟨rfl, hb8⟩
    have hs8 := HS.out.later hb8
    have HS8 := hide hs8
    clear hb8 HS HTI hs8
    have HE : Hid (res = .ok k2) := by
     show _ = _
     rw [← HRES.out]
     unfold goesP
     simp only
     rw [HEQ.out]
     rfl
    have q0 := HS8.out.res.cell 0
    have qf := HS8.out.res.frozen 0
    simp only [ZG, ZH] at q0
    go_wp2_with fail
    refine leaves_cons (f := 21) (args := #[.pointer (some ⟨R + 1, 0, none⟩)]) (by simp) (by simp [go_sem]) ?_
    refine (catch_nil (R + 1) _).mono ?_
    rintro e6 u6 w6 ⟨rfl, rfl, rfl⟩
    have z0 := (HS8.out.res.set 0 (ZI ZQ 0)).cell 0
    simp at z0
    simp [Leaves, settle, results, Try.results15, go_sem, z0]
    exact row_ends HE.out HS8.out (by rw [HRR.out]; exact Nat.le_refl _) HBB.out
set_option maxRecDepth 100000 in
set_option maxHeartbeats 8000000 in
theorem row_gets (b base : Nat) (k : KN) (vf vp vd : Value) (r : RW) (rs : List RGJ) (es : List EVJ) (w : World) (hK : KnAt w b base k vf vp vd) (hR : LieAt rgL 2 w base r.ra rs) (hE : LieAt evL 4 w base r.ea es) (hen : es.length = r.en) (hel : r.en ≤ 2000)
  (hsh : k.shut = false) (herr : r.err = 0) (hcl : es.any closesP = false) (ht : 0 ≤ r.t ∧ r.t ≤ 9007199254740991) (hk : r.kind = 3) (hlate : k.t ≤ r.t) (sres : Except Int KN) (P : KN → Prop)
  (hstep : ∀ W, KnAt W b base { k with t := r.t } vf vp vd → LieAt rgL 2 W base r.ra rs → Calls Try.prog 29 #[.pointer (some ⟨b, 0, none⟩), .agg (rwC r)] W (StepPost b base W sres))
  (hP1 : ∀ k1, sres = .ok k1 → P k1) (hPe : ∀ k1 e k2, P k1 → e ∈ es → eventP k1 r rs e = .ok k2 → P k2) (hPl : ∀ k1, P k1 → k1.pieces.length ≤ 1900)
  (hev : ∀ k1 e W vf vp vd, P k1 → e ∈ es → KnAt W b base k1 vf vp vd → LieAt rgL 2 W base r.ra rs → Calls Try.prog 32 #[.pointer (some ⟨b, 0, none⟩), .agg (rwC r), .agg #[ZI ZQ e.kind, ZI ZQ e.sp, ZI ZQ e.num, ZI ZQ e.n]] W (StepPost b base W (eventP k1 r rs e))) :
  Calls Try.prog 15 #[.pointer (some ⟨b, 0, none⟩), .agg (rwC r)] w (RowPost b base w (goesP r rs es sres)) := by
 obtain ⟨kind, rt, rsp, rsize, ⟨osp, onum, osize, oel, ofl, opr, oect⟩, delay, ra, rn, rc, marked, e0, e1, e2, ea, en, ec, err, smooth⟩ := r
 simp only at hR hE hen hel herr ht hk hlate ⊢
 subst herr
 subst hk
 have HST := hide hstep
 have HEV := hide hev
 have HP1 := hide hP1
 have HPE := hide hPe
 have HPL := hide hPl
 clear hstep hev hP1 hPe hPl
 have hmf : ∀ (fn : Fn) (first cap : Array Value) (w : World), (Instr.makeFunc fn first cap).run Try.prog w = .ok (.func fn first cap) w := fun _ _ _ _ => rfl
 have hbb : base ≤ w.heap.size := Nat.le_of_lt (Nat.lt_of_le_of_lt hK.ge hK.blk.lt)
 have ha : Below w.heap.size w ((w.alloc (.cells (rwC ⟨3, rt, rsp, rsize, ⟨osp, onum, osize, oel, ofl, opr, oect⟩, delay, ra, rn, rc, marked, e0, e1, e2, ea, en, ec, 0, smooth⟩) 36)).alloc (.cells #[ZI ZQ 0] 3)) := ((Below.refl _ _).alloc (Nat.le_refl _) _).alloc (by simp) _
 have hs0 : RowSt w ((w.alloc (.cells (rwC ⟨3, rt, rsp, rsize, ⟨osp, onum, osize, oel, ofl, opr, oect⟩, delay, ra, rn, rc, marked, e0, e1, e2, ea, en, ec, 0, smooth⟩) 36)).alloc (.cells #[ZI ZQ 0] 3)) b base k vf vp vd w.heap.size ⟨3, rt, rsp, rsize, ⟨osp, onum, osize, oel, ofl, opr, oect⟩, delay, ra, rn, rc, marked, e0, e1, e2, ea, en, ec, 0, smooth⟩ es rs := by
  refine ⟨hK.later ha, (Blk.new _ _ _).alloc _, ?_, hR.later (ha.mono hbb), hE.later (ha.mono hbb), Far.of_below ha hbb⟩
  have := Blk.new (w.alloc (.cells (rwC ⟨3, rt, rsp, rsize, ⟨osp, onum, osize, oel, ofl, opr, oect⟩, delay, ra, rn, rc, marked, e0, e1, e2, ea, en, ec, 0, smooth⟩) 36)) 3 #[ZI ZQ 0]
  simpa using this
 obtain ⟨res, hres⟩ : ∃ x, goesP ⟨3, rt, rsp, rsize, ⟨osp, onum, osize, oel, ofl, opr, oect⟩, delay, ra, rn, rc, marked, e0, e1, e2, ea, en, ec, 0, smooth⟩ rs es sres = x := ⟨_, rfl⟩
 rw [hres]
 have HRES := hide hres
 clear hres
 obtain ⟨W1, hW1⟩ : ∃ x, (w.alloc (.cells (rwC ⟨3, rt, rsp, rsize, ⟨osp, onum, osize, oel, ofl, opr, oect⟩, delay, ra, rn, rc, marked, e0, e1, e2, ea, en, ec, 0, smooth⟩) 36)).alloc (.cells #[ZI ZQ 0] 3) = x := ⟨_, rfl⟩
 obtain ⟨R, hRr⟩ : ∃ x, w.heap.size = x := ⟨_, rfl⟩
 have HRR := hide hRr
 have HBB := hide hbb
 have HY := hide (fun rule W => unless_yes rule W)
 have HNO := hide (fun rule W => unless_no rule W)
 have HCO := hide (fun W h => con_ev ea en ec es W hen hel h)
 rw [hcl] at HCO
 have HIS := hide (fun W => jis_any rt W)
 rw [show (decide (0 ≤ rt) && decide (rt ≤ 9007199254740991)) = true by simp [ht.1, ht.2]] at HIS
 rw [hW1, hRr] at hs0
 have HS1 := hide hs0
 have k15 := hs0.kn.blk.cell 15
 have r17 := hs0.row.cell 17
 have r18 := hs0.row.cell 18
 simp only [knC, rwC, ZG, ZH, ZJ] at k15 r17 r18
 rw [hsh] at k15
 unfold rwC at hW1 ⊢
 clear hs0 ha hR hE hcl hK
 go_enter_defers Try.func15, Try.ntmps15
 go_wp2_with fail
 clear hW1 hRr k15 r17 r18 hbb
 with_reducible refine (HCO.out _ (HS1.out.ev.up HS1.out.ge)).mono ?_
 rintro y1 W2 ⟨rfl, hb1⟩
 have hs2 := HS1.out.later hb1
 have HS2 := hide hs2
 clear HS1 hb1 HCO
 go_wp2_with fail
 with_reducible refine (HY.out _ _).mono ?_
 rintro y2 u2 ⟨rfl, rfl⟩
 have r1 := hs2.row.cell 1
 have k10 := hs2.kn.blk.cell 10
 simp only [knC, rwC, ZG, ZH, ZJ] at r1 k10
 clear hs2
 go_wp2_with fail
 go_quiet (first | (go_at_call 25; with_reducible exact quiet24 (HIS.out _)) | (go_at_call 23; with_reducible exact quiet24 (HY.out _ _)))
 have hs3 := HS2.out.later (below_drewN (Below.refl _ _) nq)
 obtain ⟨W3, hW3⟩ : ∃ x, W2.drewN nq = x := ⟨_, rfl⟩
 rw [hW3] at hs3
 try rw [hW3]
 have HS3 := hide hs3
 clear r1 k10 hW3 HS2
 have r1 := hs3.row.cell 1
 have k10 := hs3.kn.blk.cell 10
 have f10 := hs3.kn.blk.frozen 10
 simp only [knC, rwC, ZG, ZH, ZJ] at r1 k10
 clear hs3
 go_upto_region 13 with (fail)
 have hs4 := HS3.out.put (k' := { k with t := rt }) 10 (ZI ZQ rt) rfl rfl rfl rfl
 obtain ⟨W4, hW4⟩ : ∃ x, W3.setCell ⟨b, 10, none⟩ (ZI ZQ rt) = x := ⟨_, rfl⟩
 rw [hW4] at hs4
 rw [hW4]
 have HS4 := hide hs4
 clear r1 k10 f10 hW4 HS3
 go_upto_region 14 with (fail)
 have hs5 := HS4.out.later ((Below.refl _ _).alloc (Nat.le_refl _) (.cells #[.func (.func 26) #[] #[], .func (.func 27) #[] #[], .func (.func 28) #[] #[], .func (.func 29) #[] #[], .func (.func 26) #[] #[], .func (.func 26) #[] #[], .func (.func 30) #[] #[], .func (.func 31) #[] #[], .func (.func 31) #[] #[]] 84))
 have hst := Blk.new W4 84 #[.func (.func 26) #[] #[], .func (.func 27) #[] #[], .func (.func 28) #[] #[], .func (.func 29) #[] #[], .func (.func 26) #[] #[], .func (.func 26) #[] #[], .func (.func 30) #[] #[], .func (.func 31) #[] #[], .func (.func 31) #[] #[]]
 obtain ⟨W5, hW5⟩ : ∃ x, W4.alloc (.cells #[.func (.func 26) #[] #[], .func (.func 27) #[] #[], .func (.func 28) #[] #[], .func (.func 29) #[] #[], .func (.func 26) #[] #[], .func (.func 26) #[] #[], .func (.func 30) #[] #[], .func (.func 31) #[] #[], .func (.func 31) #[] #[]] 84) = x := ⟨_, rfl⟩
 obtain ⟨X, hX⟩ : ∃ x, W4.heap.size = x := ⟨_, rfl⟩
 rw [hW5] at hs5 hst
 rw [hX] at hst
 rw [hW5, hX]
 clear hW5 hX HS4
 have r0 := hs5.row.cell 0
 simp only [rwC, ZG, ZH, ZJ] at r0
 have HS5 := hide hs5
 have HST5 := hide hst
 have hs5d : RowSt w W5.drew b base { k with t := rt } vf vp vd R ⟨3, rt, rsp, rsize, ⟨osp, onum, osize, oel, ofl, opr, oect⟩, delay, ra, rn, rc, marked, e0, e1, e2, ea, en, ec, 0, smooth⟩ es rs := hs5.later (below_drewN (Below.refl _ _) 1)
 have HS5D := hide hs5d
 clear hs5 hst hs5d
 go_wp2_with fail
 clear r0
 cases sres with
 | error n =>
  refine wp_region_held_drew (S := (fun w' => Blk w' R 36 (rwC ⟨3, rt, rsp, rsize, ⟨osp, onum, osize, oel, ofl, opr, oect⟩, delay, ra, rn, rc, marked, e0, e1, e2, ea, en, ec, 0, smooth⟩) ∧ Blk w' X 84 #[.func (.func 26) #[] #[], .func (.func 27) #[] #[], .func (.func 28) #[] #[], .func (.func 29) #[] #[], .func (.func 26) #[] #[], .func (.func 26) #[] #[], .func (.func 30) #[] #[], .func (.func 31) #[] #[], .func (.func 31) #[] #[]])) (by kernel_rfl) (⟨HS5.out.row.drew, HST5.out.drew⟩) (fun hHeld => ?_)
  refine tkH 0 ?_ rfl (fun c a9 w9 h => leaves_same (row_results a9.tmps 98 _ (by decide)) a9.defers _ w9 h) ?_ ?_
  rotate_left
  ·intro w' hSw; (try dsimp only at hSw); obtain ⟨ha, hb⟩ := hSw; have r0 := ha.cell 0; have x0 := hb.cell 3; simp only [rwC, ZG, ZH, ZJ] at r0 x0; go_simp; try with_reducible rfl
  try simp only [ZP, ZA, ZB, ZC, ZD, ZE, ZF]
  refine tkH 1 ?_ rfl (fun c a9 w9 h => leaves_same (row_results a9.tmps 99 _ (by decide)) a9.defers _ w9 h) ?_ ?_
  rotate_left
  ·intro w' hSw; (try dsimp only at hSw); obtain ⟨ha, hb⟩ := hSw; have r0 := ha.cell 0; have x0 := hb.cell 3; simp only [rwC, ZG, ZH, ZJ] at r0 x0; go_simp; try with_reducible rfl
  try simp only [ZP, ZA, ZB, ZC, ZD, ZE, ZF]
  refine tkH 2 ?_ rfl (fun c a9 w9 h => leaves_same (row_results a9.tmps 100 _ (by decide)) a9.defers _ w9 h) ?_ ?_
  rotate_left
  ·intro w' hSw; (try dsimp only at hSw); obtain ⟨ha, hb⟩ := hSw; have r0 := ha.cell 0; have x0 := hb.cell 3; simp only [rwC, ZG, ZH, ZJ] at r0 x0; go_simp; try with_reducible rfl
  try simp only [ZP, ZA, ZB, ZC, ZD, ZE, ZF]
  refine tkH 3 ?_ rfl (fun c a9 w9 h => leaves_same (row_results a9.tmps 101 _ (by decide)) a9.defers _ w9 h) ?_ ?_
  rotate_left
  ·intro w' hSw; (try dsimp only at hSw); obtain ⟨ha, hb⟩ := hSw; have r0 := ha.cell 0; have x0 := hb.cell 3; simp only [rwC, ZG, ZH, ZJ] at r0 x0; go_simp; try with_reducible rfl
  try simp only [ZP, ZA, ZB, ZC, ZD, ZE, ZF]
  refine tkH 4 ?_ rfl (fun c a9 w9 h => leaves_same (row_results a9.tmps 102 _ (by decide)) a9.defers _ w9 h) ?_ ?_
  rotate_left
  ·intro w' hSw; (try dsimp only at hSw); obtain ⟨ha, hb⟩ := hSw; have r0 := ha.cell 0; have x0 := hb.cell 3; simp only [rwC, ZG, ZH, ZJ] at r0 x0; go_simp; try with_reducible rfl
  try simp only [ZP, ZA, ZB, ZC, ZD, ZE, ZF]
  refine tkR [5] ?_
  refine ZS rfl (fun K hK => ?_) ZN
  rw [if_pos (by rfl)]
  refine wp_load_row 36 (.tmp 3) rfl R rfl 36 (rwC ⟨3, rt, rsp, rsize, ⟨osp, onum, osize, oel, ofl, opr, oect⟩, delay, ra, rn, rc, marked, e0, e1, e2, ea, en, ec, 0, smooth⟩) (0, 0) _ HS5.out.row.drew Try.underlying36 rfl row_size ?_
  refine hK.out _ _ (⟨HS5.out.row.drew, HST5.out.drew⟩) (fun hHeld => ?_)
  clear hK K
  try simp only [ZP, ZA, ZB, ZC, ZD, ZE, ZF]
  refine tkR [6] ?_
  refine ZS rfl (fun K hK => ?_) ZN
  go_simp
  go_at_call 29
  with_reducible refine (HST.out _ HS5D.out.kn HS5D.out.rg).mono ?_
  rintro y5 W6 ⟨rfl, hf5⟩
  have hs6 := HS5D.out.bl.trans hf5
  exact row_throws rfl (hf5.kept HS5.out.res.drew (by decide) (by decide) (by decide) (by decide)) hs6 (by rw [HRR.out]; exact Nat.le_refl _) HBB.out HRES.out.symm
 | ok k1 =>
  refine wp_region_held_drew (S := (fun w' => Blk w' R 36 (rwC ⟨3, rt, rsp, rsize, ⟨osp, onum, osize, oel, ofl, opr, oect⟩, delay, ra, rn, rc, marked, e0, e1, e2, ea, en, ec, 0, smooth⟩) ∧ Blk w' X 84 #[.func (.func 26) #[] #[], .func (.func 27) #[] #[], .func (.func 28) #[] #[], .func (.func 29) #[] #[], .func (.func 26) #[] #[], .func (.func 26) #[] #[], .func (.func 30) #[] #[], .func (.func 31) #[] #[], .func (.func 31) #[] #[]])) (by kernel_rfl) (⟨HS5.out.row.drew, HST5.out.drew⟩) (fun hHeld => ?_)
  refine tkH 0 ?_ rfl (fun c a9 w9 h => leaves_same (row_results a9.tmps 98 _ (by decide)) a9.defers _ w9 h) ?_ ?_
  rotate_left
  ·intro w' hSw; (try dsimp only at hSw); obtain ⟨ha, hb⟩ := hSw; have r0 := ha.cell 0; have x0 := hb.cell 3; simp only [rwC, ZG, ZH, ZJ] at r0 x0; go_simp; try with_reducible rfl
  try simp only [ZP, ZA, ZB, ZC, ZD, ZE, ZF]
  refine tkH 1 ?_ rfl (fun c a9 w9 h => leaves_same (row_results a9.tmps 99 _ (by decide)) a9.defers _ w9 h) ?_ ?_
  rotate_left
  ·intro w' hSw; (try dsimp only at hSw); obtain ⟨ha, hb⟩ := hSw; have r0 := ha.cell 0; have x0 := hb.cell 3; simp only [rwC, ZG, ZH, ZJ] at r0 x0; go_simp; try with_reducible rfl
  try simp only [ZP, ZA, ZB, ZC, ZD, ZE, ZF]
  refine tkH 2 ?_ rfl (fun c a9 w9 h => leaves_same (row_results a9.tmps 100 _ (by decide)) a9.defers _ w9 h) ?_ ?_
  rotate_left
  ·intro w' hSw; (try dsimp only at hSw); obtain ⟨ha, hb⟩ := hSw; have r0 := ha.cell 0; have x0 := hb.cell 3; simp only [rwC, ZG, ZH, ZJ] at r0 x0; go_simp; try with_reducible rfl
  try simp only [ZP, ZA, ZB, ZC, ZD, ZE, ZF]
  refine tkH 3 ?_ rfl (fun c a9 w9 h => leaves_same (row_results a9.tmps 101 _ (by decide)) a9.defers _ w9 h) ?_ ?_
  rotate_left
  ·intro w' hSw; (try dsimp only at hSw); obtain ⟨ha, hb⟩ := hSw; have r0 := ha.cell 0; have x0 := hb.cell 3; simp only [rwC, ZG, ZH, ZJ] at r0 x0; go_simp; try with_reducible rfl
  try simp only [ZP, ZA, ZB, ZC, ZD, ZE, ZF]
  refine tkH 4 ?_ rfl (fun c a9 w9 h => leaves_same (row_results a9.tmps 102 _ (by decide)) a9.defers _ w9 h) ?_ ?_
  rotate_left
  ·intro w' hSw; (try dsimp only at hSw); obtain ⟨ha, hb⟩ := hSw; have r0 := ha.cell 0; have x0 := hb.cell 3; simp only [rwC, ZG, ZH, ZJ] at r0 x0; go_simp; try with_reducible rfl
  try simp only [ZP, ZA, ZB, ZC, ZD, ZE, ZF]
  refine tkR [5] ?_
  refine ZS rfl (fun K hK => ?_) ZN
  rw [if_pos (by rfl)]
  refine wp_load_row 36 (.tmp 3) rfl R rfl 36 (rwC ⟨3, rt, rsp, rsize, ⟨osp, onum, osize, oel, ofl, opr, oect⟩, delay, ra, rn, rc, marked, e0, e1, e2, ea, en, ec, 0, smooth⟩) (0, 0) _ HS5.out.row.drew Try.underlying36 rfl row_size ?_
  refine hK.out _ _ (⟨HS5.out.row.drew, HST5.out.drew⟩) (fun hHeld => ?_)
  clear hK K
  try simp only [ZP, ZA, ZB, ZC, ZD, ZE, ZF]
  refine tkR [6] ?_
  refine ZS rfl (fun K hK => ?_) ZN
  go_simp
  go_at_call 29
  with_reducible refine (HST.out _ HS5D.out.kn HS5D.out.rg).mono ?_
  rintro y5 W6 ⟨rfl, vf1, vp1, vd1, hk1, hf5⟩
  refine hK.out _ _ (⟨hf5.kept HS5.out.row.drew (by decide) (by decide) (by decide) (by decide), hf5.kept HST5.out.drew (by decide) (by decide) (by decide) (by decide)⟩) (fun hHeld => ?_)
  clear hK K
  try simp only [ZP, ZA, ZB, ZC, ZD, ZE, ZF]
  refine wpAnyH_done (by kernel_rfl) ?_ _
  have hs6 := HS5D.out.far hf5 hk1
  have hp1 := HP1.out k1 rfl
  have HS6 := hide hs6
  have r17 := hs6.row.cell 17
  simp only [rwC, ZG, ZH, ZJ] at r17
  clear hs6 hk1 hf5 HS5 HS5D HST5 HST HP1
  go_wp2_with fail
  clear r17
  go_loopg [108] en (fun kx s108 wr => ∃ (i : Nat) (k2 : KN) (vf2 vp2 vd2 : Value), s108 = ZI ZQ i ∧ i ≤ en ∧ en - i ≤ kx ∧ P k2 ∧ Hid (eventsP ⟨3, rt, rsp, rsize, ⟨osp, onum, osize, oel, ofl, opr, oect⟩, delay, ra, rn, rc, marked, e0, e1, e2, ea, en, ec, 0, smooth⟩ rs k1 es = eventsP ⟨3, rt, rsp, rsize, ⟨osp, onum, osize, oel, ofl, opr, oect⟩, delay, ra, rn, rc, marked, e0, e1, e2, ea, en, ec, 0, smooth⟩ rs k2 (es.drop i)) ∧ RowSt w wr b base k2 vf2 vp2 vd2 R ⟨3, rt, rsp, rsize, ⟨osp, onum, osize, oel, ofl, opr, oect⟩, delay, ra, rn, rc, marked, e0, e1, e2, ea, en, ec, 0, smooth⟩ es rs)
  case atStart => exact ⟨0, k1, vf1, vp1, vd1, rfl, by omega, by omega, hp1, rfl, HS6.out⟩
  case round =>
   clear HS6 hp1
   obtain ⟨i, k2, vf2, vp2, vd2, rfl, hi, hkx, hp2, heq, hs⟩ := hrel
   have HS := hide hs
   have HP2 := hide hp2
   clear hp2
   by_cases hlt : i < en
   ·have hir : i < es.length := by rw [hen]; exact hlt
    obtain ⟨e, he⟩ : ∃ e, es[i]? = some e := ⟨_, List.getElem?_eq_getElem hir⟩
    have hd : es.drop i = e :: es.drop (i + 1) := by
     rw [List.drop_eq_getElem_cons hir]
     congr 1
     rw [List.getElem?_eq_getElem hir] at he
     exact Option.some.inj he
    have hmem : e ∈ es := List.mem_of_getElem? he
    obtain ⟨g, o, rfl, hg, hz⟩ := hs.ev.at he
    have z0 := hz 0 _ (by omega) rfl
    have z1 := hz 1 _ (by omega) rfl
    have z2 := hz 2 _ (by omega) rfl
    have z3 := hz 3 _ (by omega) rfl
    simp only [Nat.add_zero] at z0
    have hin : (i : Int) < (en : Int) := by omega
    have HEQ : Hid (eventsP ⟨3, rt, rsp, rsize, ⟨osp, onum, osize, oel, ofl, opr, oect⟩, delay, ra, rn, rc, marked, e0, e1, e2, (some ⟨g, o, none⟩), en, ec, 0, smooth⟩ rs k1 es = match eventP k2 ⟨3, rt, rsp, rsize, ⟨osp, onum, osize, oel, ofl, opr, oect⟩, delay, ra, rn, rc, marked, e0, e1, e2, (some ⟨g, o, none⟩), en, ec, 0, smooth⟩ rs e with
      | .ok k3 => eventsP ⟨3, rt, rsp, rsize, ⟨osp, onum, osize, oel, ofl, opr, oect⟩, delay, ra, rn, rc, marked, e0, e1, e2, (some ⟨g, o, none⟩), en, ec, 0, smooth⟩ rs k3 (es.drop (i + 1))
      | .error n => .error n) := by
     show _ = _
     rw [heq, hd]
     rfl
    have hbx : Below wr.heap.size wr (wr.alloc (.cells #[ZI ZQ e.kind, ZI ZQ e.sp, ZI ZQ e.num, ZI ZQ e.n] 46)) := (Below.refl _ _).alloc (Nat.le_refl _) _
    have HSX := hide (hs.later hbx)
    have HMEM := hide hmem
    clear heq hd hir he hz hs hbx hmem
    go_wp2_with (refine wpList_load_row rfl 36 (.tmp 3) rfl R rfl 36 (rwC ⟨3, rt, rsp, rsize, ⟨osp, onum, osize, oel, ofl, opr, oect⟩, delay, ra, rn, rc, marked, e0, e1, e2, (some ⟨g, o, none⟩), en, ec, 0, smooth⟩) (0, 0) _ HSX.out.row Try.underlying36 rfl row_size ?_)
    with_reducible refine (HEV.out k2 e _ vf2 vp2 vd2 HP2.out HMEM.out HSX.out.kn HSX.out.rg).mono ?_
    cases hq : eventP k2 ⟨3, rt, rsp, rsize, ⟨osp, onum, osize, oel, ofl, opr, oect⟩, delay, ra, rn, rc, marked, e0, e1, e2, (some ⟨g, o, none⟩), en, ec, 0, smooth⟩ rs e with
    | error n =>
     rintro y7 W7 ⟨rfl, hf7⟩
     have HE : Hid (res = .error n) := by
      show _ = _
      rw [← HRES.out]
      unfold goesP
      simp only
      rw [HEQ.out, hq]
     exact row_throws rfl (hf7.kept HSX.out.res (by decide) (by decide) (by decide) (by decide)) (HSX.out.bl.trans hf7) (by rw [HRR.out]; exact Nat.le_refl _) HBB.out HE.out
    | ok k3 =>
     rintro y7 W7 ⟨rfl, vf3, vp3, vd3, hk3, hf7⟩
     have hs7 := HSX.out.far hf7 hk3
     have HS7 := hide hs7
     have HP3 := hide (HPE.out k2 e k3 HP2.out HMEM.out hq)
     rw [hq] at HEQ
     have HEQ7 := hide HEQ.out
     clear hs7 hk3 hf7 hq HEQ HSX HS z0 z1 z2 z3
     go_wp2_with fail
     go_roundg (en - (i + 1))
     case rel => exact ⟨i + 1, k3, vf3, vp3, vd3, by go_num, by omega, by omega, HP3.out, HEQ7.out, HS7.out⟩
     case measure => omega
   ·obtain rfl : en = i := by omega
    have hin : ¬ (en : Int) < (en : Int) := by omega
    have HEQ : Hid (eventsP ⟨3, rt, rsp, rsize, ⟨osp, onum, osize, oel, ofl, opr, oect⟩, delay, ra, rn, rc, marked, e0, e1, e2, ea, en, ec, 0, smooth⟩ rs k1 es = .ok k2) := by
     show _ = _
     rw [heq, List.drop_of_length_le (by rw [hen]; exact Nat.le_refl _)]
     rfl
    clear heq
    have HTI := hide (fun W => timed_any ⟨3, rt, rsp, rsize, ⟨osp, onum, osize, oel, ofl, opr, oect⟩, delay, ra, rn, rc, marked, e0, e1, e2, ea, en, ec, 0, smooth⟩ W)
    rw [show timedB ⟨3, rt, rsp, rsize, ⟨osp, onum, osize, oel, ofl, opr, oect⟩, delay, ra, rn, rc, marked, e0, e1, e2, ea, en, ec, 0, smooth⟩ = false from rfl] at HTI
    clear hs
    go_wp2_with (refine wpList_load_row rfl 36 (.tmp 3) rfl R rfl 36 (rwC ⟨3, rt, rsp, rsize, ⟨osp, onum, osize, oel, ofl, opr, oect⟩, delay, ra, rn, rc, marked, e0, e1, e2, ea, en, ec, 0, smooth⟩) (0, 0) _ HS.out.row Try.underlying36 rfl row_size ?_)
    with_reducible refine (HTI.out _).mono ?_
    rintro y8 W8 ⟨rfl, hb8⟩
    have hs8 := HS.out.later hb8
    have HS8 := hide hs8
    clear hb8 HS HTI hs8
    have HE : Hid (res = .ok k2) := by
     show _ = _
     rw [← HRES.out]
     unfold goesP
     simp only
     rw [HEQ.out]
     rfl
    have q0 := HS8.out.res.cell 0
    have qf := HS8.out.res.frozen 0
    simp only [ZG, ZH] at q0
    go_wp2_with fail
    refine leaves_cons (f := 21) (args := #[.pointer (some ⟨R + 1, 0, none⟩)]) (by simp) (by simp [go_sem]) ?_
    refine (catch_nil (R + 1) _).mono ?_
    rintro e6 u6 w6 ⟨rfl, rfl, rfl⟩
    have z0 := (HS8.out.res.set 0 (ZI ZQ 0)).cell 0
    simp at z0
    simp [Leaves, settle, results, Try.results15, go_sem, z0]
    exact row_ends HE.out HS8.out (by rw [HRR.out]; exact Nat.le_refl _) HBB.out
set_option maxRecDepth 100000 in
set_option maxHeartbeats 8000000 in
theorem row_discards (b base : Nat) (k : KN) (vf vp vd : Value) (r : RW) (rs : List RGJ) (es : List EVJ) (w : World) (hK : KnAt w b base k vf vp vd) (hR : LieAt rgL 2 w base r.ra rs) (hE : LieAt evL 4 w base r.ea es) (hen : es.length = r.en) (hel : r.en ≤ 2000)
  (hsh : k.shut = false) (herr : r.err = 0) (hcl : es.any closesP = false) (ht : 0 ≤ r.t ∧ r.t ≤ 9007199254740991) (hk : r.kind = 6) (hlate : k.t ≤ r.t) (sres : Except Int KN) (P : KN → Prop)
  (hstep : ∀ W, KnAt W b base { k with t := r.t } vf vp vd → LieAt rgL 2 W base r.ra rs → Calls Try.prog 30 #[.pointer (some ⟨b, 0, none⟩), .agg (rwC r)] W (StepPost b base W sres))
  (hP1 : ∀ k1, sres = .ok k1 → P k1) (hPe : ∀ k1 e k2, P k1 → e ∈ es → eventP k1 r rs e = .ok k2 → P k2) (hPl : ∀ k1, P k1 → k1.pieces.length ≤ 1900)
  (hev : ∀ k1 e W vf vp vd, P k1 → e ∈ es → KnAt W b base k1 vf vp vd → LieAt rgL 2 W base r.ra rs → Calls Try.prog 32 #[.pointer (some ⟨b, 0, none⟩), .agg (rwC r), .agg #[ZI ZQ e.kind, ZI ZQ e.sp, ZI ZQ e.num, ZI ZQ e.n]] W (StepPost b base W (eventP k1 r rs e))) :
  Calls Try.prog 15 #[.pointer (some ⟨b, 0, none⟩), .agg (rwC r)] w (RowPost b base w (goesP r rs es sres)) := by
 obtain ⟨kind, rt, rsp, rsize, ⟨osp, onum, osize, oel, ofl, opr, oect⟩, delay, ra, rn, rc, marked, e0, e1, e2, ea, en, ec, err, smooth⟩ := r
 simp only at hR hE hen hel herr ht hk hlate ⊢
 subst herr
 subst hk
 have HST := hide hstep
 have HEV := hide hev
 have HP1 := hide hP1
 have HPE := hide hPe
 have HPL := hide hPl
 clear hstep hev hP1 hPe hPl
 have hmf : ∀ (fn : Fn) (first cap : Array Value) (w : World), (Instr.makeFunc fn first cap).run Try.prog w = .ok (.func fn first cap) w := fun _ _ _ _ => rfl
 have hbb : base ≤ w.heap.size := Nat.le_of_lt (Nat.lt_of_le_of_lt hK.ge hK.blk.lt)
 have ha : Below w.heap.size w ((w.alloc (.cells (rwC ⟨6, rt, rsp, rsize, ⟨osp, onum, osize, oel, ofl, opr, oect⟩, delay, ra, rn, rc, marked, e0, e1, e2, ea, en, ec, 0, smooth⟩) 36)).alloc (.cells #[ZI ZQ 0] 3)) := ((Below.refl _ _).alloc (Nat.le_refl _) _).alloc (by simp) _
 have hs0 : RowSt w ((w.alloc (.cells (rwC ⟨6, rt, rsp, rsize, ⟨osp, onum, osize, oel, ofl, opr, oect⟩, delay, ra, rn, rc, marked, e0, e1, e2, ea, en, ec, 0, smooth⟩) 36)).alloc (.cells #[ZI ZQ 0] 3)) b base k vf vp vd w.heap.size ⟨6, rt, rsp, rsize, ⟨osp, onum, osize, oel, ofl, opr, oect⟩, delay, ra, rn, rc, marked, e0, e1, e2, ea, en, ec, 0, smooth⟩ es rs := by
  refine ⟨hK.later ha, (Blk.new _ _ _).alloc _, ?_, hR.later (ha.mono hbb), hE.later (ha.mono hbb), Far.of_below ha hbb⟩
  have := Blk.new (w.alloc (.cells (rwC ⟨6, rt, rsp, rsize, ⟨osp, onum, osize, oel, ofl, opr, oect⟩, delay, ra, rn, rc, marked, e0, e1, e2, ea, en, ec, 0, smooth⟩) 36)) 3 #[ZI ZQ 0]
  simpa using this
 obtain ⟨res, hres⟩ : ∃ x, goesP ⟨6, rt, rsp, rsize, ⟨osp, onum, osize, oel, ofl, opr, oect⟩, delay, ra, rn, rc, marked, e0, e1, e2, ea, en, ec, 0, smooth⟩ rs es sres = x := ⟨_, rfl⟩
 rw [hres]
 have HRES := hide hres
 clear hres
 obtain ⟨W1, hW1⟩ : ∃ x, (w.alloc (.cells (rwC ⟨6, rt, rsp, rsize, ⟨osp, onum, osize, oel, ofl, opr, oect⟩, delay, ra, rn, rc, marked, e0, e1, e2, ea, en, ec, 0, smooth⟩) 36)).alloc (.cells #[ZI ZQ 0] 3) = x := ⟨_, rfl⟩
 obtain ⟨R, hRr⟩ : ∃ x, w.heap.size = x := ⟨_, rfl⟩
 have HRR := hide hRr
 have HBB := hide hbb
 have HY := hide (fun rule W => unless_yes rule W)
 have HNO := hide (fun rule W => unless_no rule W)
 have HCO := hide (fun W h => con_ev ea en ec es W hen hel h)
 rw [hcl] at HCO
 have HIS := hide (fun W => jis_any rt W)
 rw [show (decide (0 ≤ rt) && decide (rt ≤ 9007199254740991)) = true by simp [ht.1, ht.2]] at HIS
 rw [hW1, hRr] at hs0
 have HS1 := hide hs0
 have k15 := hs0.kn.blk.cell 15
 have r17 := hs0.row.cell 17
 have r18 := hs0.row.cell 18
 simp only [knC, rwC, ZG, ZH, ZJ] at k15 r17 r18
 rw [hsh] at k15
 unfold rwC at hW1 ⊢
 clear hs0 ha hR hE hcl hK
 go_enter_defers Try.func15, Try.ntmps15
 go_wp2_with fail
 clear hW1 hRr k15 r17 r18 hbb
 with_reducible refine (HCO.out _ (HS1.out.ev.up HS1.out.ge)).mono ?_
 rintro y1 W2 ⟨rfl, hb1⟩
 have hs2 := HS1.out.later hb1
 have HS2 := hide hs2
 clear HS1 hb1 HCO
 go_wp2_with fail
 with_reducible refine (HY.out _ _).mono ?_
 rintro y2 u2 ⟨rfl, rfl⟩
 have r1 := hs2.row.cell 1
 have k10 := hs2.kn.blk.cell 10
 simp only [knC, rwC, ZG, ZH, ZJ] at r1 k10
 clear hs2
 go_wp2_with fail
 go_quiet (first | (go_at_call 25; with_reducible exact quiet24 (HIS.out _)) | (go_at_call 23; with_reducible exact quiet24 (HY.out _ _)))
 have hs3 := HS2.out.later (below_drewN (Below.refl _ _) nq)
 obtain ⟨W3, hW3⟩ : ∃ x, W2.drewN nq = x := ⟨_, rfl⟩
 rw [hW3] at hs3
 try rw [hW3]
 have HS3 := hide hs3
 clear r1 k10 hW3 HS2
 have r1 := hs3.row.cell 1
 have k10 := hs3.kn.blk.cell 10
 have f10 := hs3.kn.blk.frozen 10
 simp only [knC, rwC, ZG, ZH, ZJ] at r1 k10
 clear hs3
 go_upto_region 13 with (fail)
 have hs4 := HS3.out.put (k' := { k with t := rt }) 10 (ZI ZQ rt) rfl rfl rfl rfl
 obtain ⟨W4, hW4⟩ : ∃ x, W3.setCell ⟨b, 10, none⟩ (ZI ZQ rt) = x := ⟨_, rfl⟩
 rw [hW4] at hs4
 rw [hW4]
 have HS4 := hide hs4
 clear r1 k10 f10 hW4 HS3
 go_upto_region 14 with (fail)
 have hs5 := HS4.out.later ((Below.refl _ _).alloc (Nat.le_refl _) (.cells #[.func (.func 26) #[] #[], .func (.func 27) #[] #[], .func (.func 28) #[] #[], .func (.func 29) #[] #[], .func (.func 26) #[] #[], .func (.func 26) #[] #[], .func (.func 30) #[] #[], .func (.func 31) #[] #[], .func (.func 31) #[] #[]] 84))
 have hst := Blk.new W4 84 #[.func (.func 26) #[] #[], .func (.func 27) #[] #[], .func (.func 28) #[] #[], .func (.func 29) #[] #[], .func (.func 26) #[] #[], .func (.func 26) #[] #[], .func (.func 30) #[] #[], .func (.func 31) #[] #[], .func (.func 31) #[] #[]]
 obtain ⟨W5, hW5⟩ : ∃ x, W4.alloc (.cells #[.func (.func 26) #[] #[], .func (.func 27) #[] #[], .func (.func 28) #[] #[], .func (.func 29) #[] #[], .func (.func 26) #[] #[], .func (.func 26) #[] #[], .func (.func 30) #[] #[], .func (.func 31) #[] #[], .func (.func 31) #[] #[]] 84) = x := ⟨_, rfl⟩
 obtain ⟨X, hX⟩ : ∃ x, W4.heap.size = x := ⟨_, rfl⟩
 rw [hW5] at hs5 hst
 rw [hX] at hst
 rw [hW5, hX]
 clear hW5 hX HS4
 have r0 := hs5.row.cell 0
 simp only [rwC, ZG, ZH, ZJ] at r0
 have HS5 := hide hs5
 have HST5 := hide hst
 have hs5d : RowSt w W5.drew b base { k with t := rt } vf vp vd R ⟨6, rt, rsp, rsize, ⟨osp, onum, osize, oel, ofl, opr, oect⟩, delay, ra, rn, rc, marked, e0, e1, e2, ea, en, ec, 0, smooth⟩ es rs := hs5.later (below_drewN (Below.refl _ _) 1)
 have HS5D := hide hs5d
 clear hs5 hst hs5d
 go_wp2_with fail
 clear r0
 cases sres with
 | error n =>
  refine wp_region_held_drew (S := (fun w' => Blk w' R 36 (rwC ⟨6, rt, rsp, rsize, ⟨osp, onum, osize, oel, ofl, opr, oect⟩, delay, ra, rn, rc, marked, e0, e1, e2, ea, en, ec, 0, smooth⟩) ∧ Blk w' X 84 #[.func (.func 26) #[] #[], .func (.func 27) #[] #[], .func (.func 28) #[] #[], .func (.func 29) #[] #[], .func (.func 26) #[] #[], .func (.func 26) #[] #[], .func (.func 30) #[] #[], .func (.func 31) #[] #[], .func (.func 31) #[] #[]])) (by kernel_rfl) (⟨HS5.out.row.drew, HST5.out.drew⟩) (fun hHeld => ?_)
  refine tkH 0 ?_ rfl (fun c a9 w9 h => leaves_same (row_results a9.tmps 98 _ (by decide)) a9.defers _ w9 h) ?_ ?_
  rotate_left
  ·intro w' hSw; (try dsimp only at hSw); obtain ⟨ha, hb⟩ := hSw; have r0 := ha.cell 0; have x0 := hb.cell 6; simp only [rwC, ZG, ZH, ZJ] at r0 x0; go_simp; try with_reducible rfl
  try simp only [ZP, ZA, ZB, ZC, ZD, ZE, ZF]
  refine tkH 1 ?_ rfl (fun c a9 w9 h => leaves_same (row_results a9.tmps 99 _ (by decide)) a9.defers _ w9 h) ?_ ?_
  rotate_left
  ·intro w' hSw; (try dsimp only at hSw); obtain ⟨ha, hb⟩ := hSw; have r0 := ha.cell 0; have x0 := hb.cell 6; simp only [rwC, ZG, ZH, ZJ] at r0 x0; go_simp; try with_reducible rfl
  try simp only [ZP, ZA, ZB, ZC, ZD, ZE, ZF]
  refine tkH 2 ?_ rfl (fun c a9 w9 h => leaves_same (row_results a9.tmps 100 _ (by decide)) a9.defers _ w9 h) ?_ ?_
  rotate_left
  ·intro w' hSw; (try dsimp only at hSw); obtain ⟨ha, hb⟩ := hSw; have r0 := ha.cell 0; have x0 := hb.cell 6; simp only [rwC, ZG, ZH, ZJ] at r0 x0; go_simp; try with_reducible rfl
  try simp only [ZP, ZA, ZB, ZC, ZD, ZE, ZF]
  refine tkH 3 ?_ rfl (fun c a9 w9 h => leaves_same (row_results a9.tmps 101 _ (by decide)) a9.defers _ w9 h) ?_ ?_
  rotate_left
  ·intro w' hSw; (try dsimp only at hSw); obtain ⟨ha, hb⟩ := hSw; have r0 := ha.cell 0; have x0 := hb.cell 6; simp only [rwC, ZG, ZH, ZJ] at r0 x0; go_simp; try with_reducible rfl
  try simp only [ZP, ZA, ZB, ZC, ZD, ZE, ZF]
  refine tkH 4 ?_ rfl (fun c a9 w9 h => leaves_same (row_results a9.tmps 102 _ (by decide)) a9.defers _ w9 h) ?_ ?_
  rotate_left
  ·intro w' hSw; (try dsimp only at hSw); obtain ⟨ha, hb⟩ := hSw; have r0 := ha.cell 0; have x0 := hb.cell 6; simp only [rwC, ZG, ZH, ZJ] at r0 x0; go_simp; try with_reducible rfl
  try simp only [ZP, ZA, ZB, ZC, ZD, ZE, ZF]
  refine tkR [5] ?_
  refine ZS rfl (fun K hK => ?_) ZN
  rw [if_pos (by rfl)]
  refine wp_load_row 36 (.tmp 3) rfl R rfl 36 (rwC ⟨6, rt, rsp, rsize, ⟨osp, onum, osize, oel, ofl, opr, oect⟩, delay, ra, rn, rc, marked, e0, e1, e2, ea, en, ec, 0, smooth⟩) (0, 0) _ HS5.out.row.drew Try.underlying36 rfl row_size ?_
  refine hK.out _ _ (⟨HS5.out.row.drew, HST5.out.drew⟩) (fun hHeld => ?_)
  clear hK K
  try simp only [ZP, ZA, ZB, ZC, ZD, ZE, ZF]
  refine tkR [6] ?_
  refine ZS rfl (fun K hK => ?_) ZN
  go_simp
  go_at_call 30
  with_reducible refine (HST.out _ HS5D.out.kn HS5D.out.rg).mono ?_
  rintro y5 W6 ⟨rfl, hf5⟩
  have hs6 := HS5D.out.bl.trans hf5
  exact row_throws rfl (hf5.kept HS5.out.res.drew (by decide) (by decide) (by decide) (by decide)) hs6 (by rw [HRR.out]; exact Nat.le_refl _) HBB.out HRES.out.symm
 | ok k1 =>
  refine wp_region_held_drew (S := (fun w' => Blk w' R 36 (rwC ⟨6, rt, rsp, rsize, ⟨osp, onum, osize, oel, ofl, opr, oect⟩, delay, ra, rn, rc, marked, e0, e1, e2, ea, en, ec, 0, smooth⟩) ∧ Blk w' X 84 #[.func (.func 26) #[] #[], .func (.func 27) #[] #[], .func (.func 28) #[] #[], .func (.func 29) #[] #[], .func (.func 26) #[] #[], .func (.func 26) #[] #[], .func (.func 30) #[] #[], .func (.func 31) #[] #[], .func (.func 31) #[] #[]])) (by kernel_rfl) (⟨HS5.out.row.drew, HST5.out.drew⟩) (fun hHeld => ?_)
  refine tkH 0 ?_ rfl (fun c a9 w9 h => leaves_same (row_results a9.tmps 98 _ (by decide)) a9.defers _ w9 h) ?_ ?_
  rotate_left
  ·intro w' hSw; (try dsimp only at hSw); obtain ⟨ha, hb⟩ := hSw; have r0 := ha.cell 0; have x0 := hb.cell 6; simp only [rwC, ZG, ZH, ZJ] at r0 x0; go_simp; try with_reducible rfl
  try simp only [ZP, ZA, ZB, ZC, ZD, ZE, ZF]
  refine tkH 1 ?_ rfl (fun c a9 w9 h => leaves_same (row_results a9.tmps 99 _ (by decide)) a9.defers _ w9 h) ?_ ?_
  rotate_left
  ·intro w' hSw; (try dsimp only at hSw); obtain ⟨ha, hb⟩ := hSw; have r0 := ha.cell 0; have x0 := hb.cell 6; simp only [rwC, ZG, ZH, ZJ] at r0 x0; go_simp; try with_reducible rfl
  try simp only [ZP, ZA, ZB, ZC, ZD, ZE, ZF]
  refine tkH 2 ?_ rfl (fun c a9 w9 h => leaves_same (row_results a9.tmps 100 _ (by decide)) a9.defers _ w9 h) ?_ ?_
  rotate_left
  ·intro w' hSw; (try dsimp only at hSw); obtain ⟨ha, hb⟩ := hSw; have r0 := ha.cell 0; have x0 := hb.cell 6; simp only [rwC, ZG, ZH, ZJ] at r0 x0; go_simp; try with_reducible rfl
  try simp only [ZP, ZA, ZB, ZC, ZD, ZE, ZF]
  refine tkH 3 ?_ rfl (fun c a9 w9 h => leaves_same (row_results a9.tmps 101 _ (by decide)) a9.defers _ w9 h) ?_ ?_
  rotate_left
  ·intro w' hSw; (try dsimp only at hSw); obtain ⟨ha, hb⟩ := hSw; have r0 := ha.cell 0; have x0 := hb.cell 6; simp only [rwC, ZG, ZH, ZJ] at r0 x0; go_simp; try with_reducible rfl
  try simp only [ZP, ZA, ZB, ZC, ZD, ZE, ZF]
  refine tkH 4 ?_ rfl (fun c a9 w9 h => leaves_same (row_results a9.tmps 102 _ (by decide)) a9.defers _ w9 h) ?_ ?_
  rotate_left
  ·intro w' hSw; (try dsimp only at hSw); obtain ⟨ha, hb⟩ := hSw; have r0 := ha.cell 0; have x0 := hb.cell 6; simp only [rwC, ZG, ZH, ZJ] at r0 x0; go_simp; try with_reducible rfl
  try simp only [ZP, ZA, ZB, ZC, ZD, ZE, ZF]
  refine tkR [5] ?_
  refine ZS rfl (fun K hK => ?_) ZN
  rw [if_pos (by rfl)]
  refine wp_load_row 36 (.tmp 3) rfl R rfl 36 (rwC ⟨6, rt, rsp, rsize, ⟨osp, onum, osize, oel, ofl, opr, oect⟩, delay, ra, rn, rc, marked, e0, e1, e2, ea, en, ec, 0, smooth⟩) (0, 0) _ HS5.out.row.drew Try.underlying36 rfl row_size ?_
  refine hK.out _ _ (⟨HS5.out.row.drew, HST5.out.drew⟩) (fun hHeld => ?_)
  clear hK K
  try simp only [ZP, ZA, ZB, ZC, ZD, ZE, ZF]
  refine tkR [6] ?_
  refine ZS rfl (fun K hK => ?_) ZN
  go_simp
  go_at_call 30
  with_reducible refine (HST.out _ HS5D.out.kn HS5D.out.rg).mono ?_
  rintro y5 W6 ⟨rfl, vf1, vp1, vd1, hk1, hf5⟩
  refine hK.out _ _ (⟨hf5.kept HS5.out.row.drew (by decide) (by decide) (by decide) (by decide), hf5.kept HST5.out.drew (by decide) (by decide) (by decide) (by decide)⟩) (fun hHeld => ?_)
  clear hK K
  try simp only [ZP, ZA, ZB, ZC, ZD, ZE, ZF]
  refine wpAnyH_done (by kernel_rfl) ?_ _
  have hs6 := HS5D.out.far hf5 hk1
  have hp1 := HP1.out k1 rfl
  have HS6 := hide hs6
  have r17 := hs6.row.cell 17
  simp only [rwC, ZG, ZH, ZJ] at r17
  clear hs6 hk1 hf5 HS5 HS5D HST5 HST HP1
  go_wp2_with fail
  clear r17
  go_loopg [108] en (fun kx s108 wr => ∃ (i : Nat) (k2 : KN) (vf2 vp2 vd2 : Value), s108 = ZI ZQ i ∧ i ≤ en ∧ en - i ≤ kx ∧ P k2 ∧ Hid (eventsP ⟨6, rt, rsp, rsize, ⟨osp, onum, osize, oel, ofl, opr, oect⟩, delay, ra, rn, rc, marked, e0, e1, e2, ea, en, ec, 0, smooth⟩ rs k1 es = eventsP ⟨6, rt, rsp, rsize, ⟨osp, onum, osize, oel, ofl, opr, oect⟩, delay, ra, rn, rc, marked, e0, e1, e2, ea, en, ec, 0, smooth⟩ rs k2 (es.drop i)) ∧ RowSt w wr b base k2 vf2 vp2 vd2 R ⟨6, rt, rsp, rsize, ⟨osp, onum, osize, oel, ofl, opr, oect⟩, delay, ra, rn, rc, marked, e0, e1, e2, ea, en, ec, 0, smooth⟩ es rs)
  case atStart => exact ⟨0, k1, vf1, vp1, vd1, rfl, by omega, by omega, hp1, rfl, HS6.out⟩
  case round =>
   clear HS6 hp1
   obtain ⟨i, k2, vf2, vp2, vd2, rfl, hi, hkx, hp2, heq, hs⟩ := hrel
   have HS := hide hs
   have HP2 := hide hp2
   clear hp2
   by_cases hlt : i < en
   ·have hir : i < es.length := by rw [hen]; exact hlt
    obtain ⟨e, he⟩ : ∃ e, es[i]? = some e := ⟨_, List.getElem?_eq_getElem hir⟩
    have hd : es.drop i = e :: es.drop (i + 1) := by
     rw [List.drop_eq_getElem_cons hir]
     congr 1
     rw [List.getElem?_eq_getElem hir] at he
     exact Option.some.inj he
    have hmem : e ∈ es := List.mem_of_getElem? he
    obtain ⟨g, o, rfl, hg, hz⟩ := hs.ev.at he
    have z0 := hz 0 _ (by omega) rfl
    have z1 := hz 1 _ (by omega) rfl
    have z2 := hz 2 _ (by omega) rfl
    have z3 := hz 3 _ (by omega) rfl
    simp only [Nat.add_zero] at z0
    have hin : (i : Int) < (en : Int) := by omega
    have HEQ : Hid (eventsP ⟨6, rt, rsp, rsize, ⟨osp, onum, osize, oel, ofl, opr, oect⟩, delay, ra, rn, rc, marked, e0, e1, e2, (some ⟨g, o, none⟩), en, ec, 0, smooth⟩ rs k1 es = match eventP k2 ⟨6, rt, rsp, rsize, ⟨osp, onum, osize, oel, ofl, opr, oect⟩, delay, ra, rn, rc, marked, e0, e1, e2, (some ⟨g, o, none⟩), en, ec, 0, smooth⟩ rs e with
      | .ok k3 => eventsP ⟨6, rt, rsp, rsize, ⟨osp, onum, osize, oel, ofl, opr, oect⟩, delay, ra, rn, rc, marked, e0, e1, e2, (some ⟨g, o, none⟩), en, ec, 0, smooth⟩ rs k3 (es.drop (i + 1))
      | .error n => .error n) := by
     show _ = _
     rw [heq, hd]
     rfl
    have hbx : Below wr.heap.size wr (wr.alloc (.cells #[ZI ZQ e.kind, ZI ZQ e.sp, ZI ZQ e.num, ZI ZQ e.n] 46)) := (Below.refl _ _).alloc (Nat.le_refl _) _
    have HSX := hide (hs.later hbx)
    have HMEM := hide hmem
    clear heq hd hir he hz hs hbx hmem
    go_wp2_with (refine wpList_load_row rfl 36 (.tmp 3) rfl R rfl 36 (rwC ⟨6, rt, rsp, rsize, ⟨osp, onum, osize, oel, ofl, opr, oect⟩, delay, ra, rn, rc, marked, e0, e1, e2, (some ⟨g, o, none⟩), en, ec, 0, smooth⟩) (0, 0) _ HSX.out.row Try.underlying36 rfl row_size ?_)
    with_reducible refine (HEV.out k2 e _ vf2 vp2 vd2 HP2.out HMEM.out HSX.out.kn HSX.out.rg).mono ?_
    cases hq : eventP k2 ⟨6, rt, rsp, rsize, ⟨osp, onum, osize, oel, ofl, opr, oect⟩, delay, ra, rn, rc, marked, e0, e1, e2, (some ⟨g, o, none⟩), en, ec, 0, smooth⟩ rs e with
    | error n =>
     rintro y7 W7 ⟨rfl, hf7⟩
     have HE : Hid (res = .error n) := by
      show _ = _
      rw [← HRES.out]
      unfold goesP
      simp only
      rw [HEQ.out, hq]
     exact row_throws rfl (hf7.kept HSX.out.res (by decide) (by decide) (by decide) (by decide)) (HSX.out.bl.trans hf7) (by rw [HRR.out]; exact Nat.le_refl _) HBB.out HE.out
    | ok k3 =>
     rintro y7 W7 ⟨rfl, vf3, vp3, vd3, hk3, hf7⟩
     have hs7 := HSX.out.far hf7 hk3
     have HS7 := hide hs7
     have HP3 := hide (HPE.out k2 e k3 HP2.out HMEM.out hq)
     rw [hq] at HEQ
     have HEQ7 := hide HEQ.out
     clear hs7 hk3 hf7 hq HEQ HSX HS z0 z1 z2 z3
     go_wp2_with fail
     go_roundg (en - (i + 1))
     case rel => exact ⟨i + 1, k3, vf3, vp3, vd3, by go_num, by omega, by omega, HP3.out, HEQ7.out, HS7.out⟩
     case measure => omega
   ·obtain rfl : en = i := by omega
    have hin : ¬ (en : Int) < (en : Int) := by omega
    have HEQ : Hid (eventsP ⟨6, rt, rsp, rsize, ⟨osp, onum, osize, oel, ofl, opr, oect⟩, delay, ra, rn, rc, marked, e0, e1, e2, ea, en, ec, 0, smooth⟩ rs k1 es = .ok k2) := by
     show _ = _
     rw [heq, List.drop_of_length_le (by rw [hen]; exact Nat.le_refl _)]
     rfl
    clear heq
    have HTI := hide (fun W => timed_any ⟨6, rt, rsp, rsize, ⟨osp, onum, osize, oel, ofl, opr, oect⟩, delay, ra, rn, rc, marked, e0, e1, e2, ea, en, ec, 0, smooth⟩ W)
    rw [show timedB ⟨6, rt, rsp, rsize, ⟨osp, onum, osize, oel, ofl, opr, oect⟩, delay, ra, rn, rc, marked, e0, e1, e2, ea, en, ec, 0, smooth⟩ = false from rfl] at HTI
    clear hs
    go_wp2_with (refine wpList_load_row rfl 36 (.tmp 3) rfl R rfl 36 (rwC ⟨6, rt, rsp, rsize, ⟨osp, onum, osize, oel, ofl, opr, oect⟩, delay, ra, rn, rc, marked, e0, e1, e2, ea, en, ec, 0, smooth⟩) (0, 0) _ HS.out.row Try.underlying36 rfl row_size ?_)
    with_reducible refine (HTI.out _).mono ?_
    rintro y8 W8 ⟨rfl, hb8⟩
    have hs8 := HS.out.later hb8
    have HS8 := hide hs8
    clear hb8 HS HTI hs8
    have HE : Hid (res = .ok k2) := by
     show _ = _
     rw [← HRES.out]
     unfold goesP
     simp only
     rw [HEQ.out]
     rfl
    have q0 := HS8.out.res.cell 0
    have qf := HS8.out.res.frozen 0
    simp only [ZG, ZH] at q0
    go_wp2_with fail
    refine leaves_cons (f := 21) (args := #[.pointer (some ⟨R + 1, 0, none⟩)]) (by simp) (by simp [go_sem]) ?_
    refine (catch_nil (R + 1) _).mono ?_
    rintro e6 u6 w6 ⟨rfl, rfl, rfl⟩
    have z0 := (HS8.out.res.set 0 (ZI ZQ 0)).cell 0
    simp at z0
    simp [Leaves, settle, results, Try.results15, go_sem, z0]
    exact row_ends HE.out HS8.out (by rw [HRR.out]; exact Nat.le_refl _) HBB.out
end Go.Proofs.Ytidfngcclbhoaaa

namespace Go.Proofs.Ytidfngcclbhoaaa
open List renaming getElem_toArray → ZA, getElem_cons_zero → ZB, getElem_cons_succ → ZC, setIfInBounds_toArray → ZD, set_cons_zero → ZE, set_cons_succ → ZF, getElem?_toArray → ZG, getElem?_cons_zero → ZH, getElem?_cons_succ → ZJ
open Go.AllReadyH renaming cons → ZS, nil → ZN
open Go.Act renaming put → ZP
open Go.Value renaming int → ZI
open Go.IntKind renaming i64 → ZQ
set_option linter.unusedSimpArgs false
set_option linter.unusedVariables false
open Go.RowKit Go.Shelf
set_option maxRecDepth 100000 in
set_option maxHeartbeats 8000000 in
theorem row_timeout (b base : Nat) (k : KN) (vf vp vd : Value) (r : RW) (rs : List RGJ) (es : List EVJ) (w : World) (hK : KnAt w b base k vf vp vd) (hR : LieAt rgL 2 w base r.ra rs) (hE : LieAt evL 4 w base r.ea es) (hen : es.length = r.en) (hel : r.en ≤ 2000)
  (hsh : k.shut = false) (herr : r.err = 0) (hcl : es.any closesP = false) (ht : 0 ≤ r.t ∧ r.t ≤ 9007199254740991) (hk : r.kind = 4) (hlate : k.t ≤ r.t) (sres : Except Int KN) (P : KN → Prop)
  (hstep : ∀ W, KnAt W b base { k with t := r.t } vf vp vd → LieAt rgL 2 W base r.ra rs → Calls Try.prog 26 #[.pointer (some ⟨b, 0, none⟩), .agg (rwC r)] W (StepPost b base W sres))
  (hP1 : ∀ k1, sres = .ok k1 → P k1) (hPe : ∀ k1 e k2, P k1 → e ∈ es → eventP k1 r rs e = .ok k2 → P k2) (hPl : ∀ k1, P k1 → k1.pieces.length ≤ 1900)
  (hev : ∀ k1 e W vf vp vd, P k1 → e ∈ es → KnAt W b base k1 vf vp vd → LieAt rgL 2 W base r.ra rs → Calls Try.prog 32 #[.pointer (some ⟨b, 0, none⟩), .agg (rwC r), .agg #[ZI ZQ e.kind, ZI ZQ e.sp, ZI ZQ e.num, ZI ZQ e.n]] W (StepPost b base W (eventP k1 r rs e))) :
  Calls Try.prog 15 #[.pointer (some ⟨b, 0, none⟩), .agg (rwC r)] w (RowPost b base w (goesP r rs es sres)) := by
 obtain ⟨kind, rt, rsp, rsize, ⟨osp, onum, osize, oel, ofl, opr, oect⟩, delay, ra, rn, rc, marked, e0, e1, e2, ea, en, ec, err, smooth⟩ := r
 simp only at hR hE hen hel herr ht hk hlate ⊢
 subst herr
 subst hk
 have HST := hide hstep
 have HEV := hide hev
 have HP1 := hide hP1
 have HPE := hide hPe
 have HPL := hide hPl
 clear hstep hev hP1 hPe hPl
 have hmf : ∀ (fn : Fn) (first cap : Array Value) (w : World), (Instr.makeFunc fn first cap).run Try.prog w = .ok (.func fn first cap) w := fun _ _ _ _ => rfl
 have hbb : base ≤ w.heap.size := Nat.le_of_lt (Nat.lt_of_le_of_lt hK.ge hK.blk.lt)
 have ha : Below w.heap.size w ((w.alloc (.cells (rwC ⟨4, rt, rsp, rsize, ⟨osp, onum, osize, oel, ofl, opr, oect⟩, delay, ra, rn, rc, marked, e0, e1, e2, ea, en, ec, 0, smooth⟩) 36)).alloc (.cells #[ZI ZQ 0] 3)) := ((Below.refl _ _).alloc (Nat.le_refl _) _).alloc (by simp) _
 have hs0 : RowSt w ((w.alloc (.cells (rwC ⟨4, rt, rsp, rsize, ⟨osp, onum, osize, oel, ofl, opr, oect⟩, delay, ra, rn, rc, marked, e0, e1, e2, ea, en, ec, 0, smooth⟩) 36)).alloc (.cells #[ZI ZQ 0] 3)) b base k vf vp vd w.heap.size ⟨4, rt, rsp, rsize, ⟨osp, onum, osize, oel, ofl, opr, oect⟩, delay, ra, rn, rc, marked, e0, e1, e2, ea, en, ec, 0, smooth⟩ es rs := by
  refine ⟨hK.later ha, (Blk.new _ _ _).alloc _, ?_, hR.later (ha.mono hbb), hE.later (ha.mono hbb), Far.of_below ha hbb⟩
  have := Blk.new (w.alloc (.cells (rwC ⟨4, rt, rsp, rsize, ⟨osp, onum, osize, oel, ofl, opr, oect⟩, delay, ra, rn, rc, marked, e0, e1, e2, ea, en, ec, 0, smooth⟩) 36)) 3 #[ZI ZQ 0]
  simpa using this
 obtain ⟨res, hres⟩ : ∃ x, goesP ⟨4, rt, rsp, rsize, ⟨osp, onum, osize, oel, ofl, opr, oect⟩, delay, ra, rn, rc, marked, e0, e1, e2, ea, en, ec, 0, smooth⟩ rs es sres = x := ⟨_, rfl⟩
 rw [hres]
 have HRES := hide hres
 clear hres
 obtain ⟨W1, hW1⟩ : ∃ x, (w.alloc (.cells (rwC ⟨4, rt, rsp, rsize, ⟨osp, onum, osize, oel, ofl, opr, oect⟩, delay, ra, rn, rc, marked, e0, e1, e2, ea, en, ec, 0, smooth⟩) 36)).alloc (.cells #[ZI ZQ 0] 3) = x := ⟨_, rfl⟩
 obtain ⟨R, hRr⟩ : ∃ x, w.heap.size = x := ⟨_, rfl⟩
 have HRR := hide hRr
 have HBB := hide hbb
 have HY := hide (fun rule W => unless_yes rule W)
 have HNO := hide (fun rule W => unless_no rule W)
 have HCO := hide (fun W h => con_ev ea en ec es W hen hel h)
 rw [hcl] at HCO
 have HIS := hide (fun W => jis_any rt W)
 rw [show (decide (0 ≤ rt) && decide (rt ≤ 9007199254740991)) = true by simp [ht.1, ht.2]] at HIS
 rw [hW1, hRr] at hs0
 have HS1 := hide hs0
 have k15 := hs0.kn.blk.cell 15
 have r17 := hs0.row.cell 17
 have r18 := hs0.row.cell 18
 simp only [knC, rwC, ZG, ZH, ZJ] at k15 r17 r18
 rw [hsh] at k15
 unfold rwC at hW1 ⊢
 clear hs0 ha hR hE hcl hK
 go_enter_defers Try.func15, Try.ntmps15
 go_wp2_with fail
 clear hW1 hRr k15 r17 r18 hbb
 with_reducible refine (HCO.out _ (HS1.out.ev.up HS1.out.ge)).mono ?_
 rintro y1 W2 ⟨rfl, hb1⟩
 have hs2 := HS1.out.later hb1
 have HS2 := hide hs2
 clear HS1 hb1 HCO
 go_wp2_with fail
 with_reducible refine (HY.out _ _).mono ?_
 rintro y2 u2 ⟨rfl, rfl⟩
 have r1 := hs2.row.cell 1
 have k10 := hs2.kn.blk.cell 10
 simp only [knC, rwC, ZG, ZH, ZJ] at r1 k10
 clear hs2
 go_wp2_with fail
 go_quiet (first | (go_at_call 25; with_reducible exact quiet24 (HIS.out _)) | (go_at_call 23; with_reducible exact quiet24 (HY.out _ _)))
 have hs3 := HS2.out.later (below_drewN (Below.refl _ _) nq)
 obtain ⟨W3, hW3⟩ : ∃ x, W2.drewN nq = x := ⟨_, rfl⟩
 rw [hW3] at hs3
 try rw [hW3]
 have HS3 := hide hs3
 clear r1 k10 hW3 HS2
 have r1 := hs3.row.cell 1
 have k10 := hs3.kn.blk.cell 10
 have f10 := hs3.kn.blk.frozen 10
 simp only [knC, rwC, ZG, ZH, ZJ] at r1 k10
 clear hs3
 go_upto_region 13 with (fail)
 have hs4 := HS3.out.put (k' := { k with t := rt }) 10 (ZI ZQ rt) rfl rfl rfl rfl
 obtain ⟨W4, hW4⟩ : ∃ x, W3.setCell ⟨b, 10, none⟩ (ZI ZQ rt) = x := ⟨_, rfl⟩
 rw [hW4] at hs4
 rw [hW4]
 have HS4 := hide hs4
 clear r1 k10 f10 hW4 HS3
 go_upto_region 14 with (fail)
 have hs5 := HS4.out.later ((Below.refl _ _).alloc (Nat.le_refl _) (.cells #[.func (.func 26) #[] #[], .func (.func 27) #[] #[], .func (.func 28) #[] #[], .func (.func 29) #[] #[], .func (.func 26) #[] #[], .func (.func 26) #[] #[], .func (.func 30) #[] #[], .func (.func 31) #[] #[], .func (.func 31) #[] #[]] 84))
 have hst := Blk.new W4 84 #[.func (.func 26) #[] #[], .func (.func 27) #[] #[], .func (.func 28) #[] #[], .func (.func 29) #[] #[], .func (.func 26) #[] #[], .func (.func 26) #[] #[], .func (.func 30) #[] #[], .func (.func 31) #[] #[], .func (.func 31) #[] #[]]
 obtain ⟨W5, hW5⟩ : ∃ x, W4.alloc (.cells #[.func (.func 26) #[] #[], .func (.func 27) #[] #[], .func (.func 28) #[] #[], .func (.func 29) #[] #[], .func (.func 26) #[] #[], .func (.func 26) #[] #[], .func (.func 30) #[] #[], .func (.func 31) #[] #[], .func (.func 31) #[] #[]] 84) = x := ⟨_, rfl⟩
 obtain ⟨X, hX⟩ : ∃ x, W4.heap.size = x := ⟨_, rfl⟩
 rw [hW5] at hs5 hst
 rw [hX] at hst
 rw [hW5, hX]
 clear hW5 hX HS4
 have r0 := hs5.row.cell 0
 simp only [rwC, ZG, ZH, ZJ] at r0
 have HS5 := hide hs5
 have HST5 := hide hst
 have hs5d : RowSt w W5.drew b base { k with t := rt } vf vp vd R ⟨4, rt, rsp, rsize, ⟨osp, onum, osize, oel, ofl, opr, oect⟩, delay, ra, rn, rc, marked, e0, e1, e2, ea, en, ec, 0, smooth⟩ es rs := hs5.later (below_drewN (Below.refl _ _) 1)
 have HS5D := hide hs5d
 clear hs5 hst hs5d
 go_wp2_with fail
 clear r0
 cases sres with
 | error n =>
  refine wp_region_held_drew (S := (fun w' => Blk w' R 36 (rwC ⟨4, rt, rsp, rsize, ⟨osp, onum, osize, oel, ofl, opr, oect⟩, delay, ra, rn, rc, marked, e0, e1, e2, ea, en, ec, 0, smooth⟩) ∧ Blk w' X 84 #[.func (.func 26) #[] #[], .func (.func 27) #[] #[], .func (.func 28) #[] #[], .func (.func 29) #[] #[], .func (.func 26) #[] #[], .func (.func 26) #[] #[], .func (.func 30) #[] #[], .func (.func 31) #[] #[], .func (.func 31) #[] #[]])) (by kernel_rfl) (⟨HS5.out.row.drew, HST5.out.drew⟩) (fun hHeld => ?_)
  refine tkH 0 ?_ rfl (fun c a9 w9 h => leaves_same (row_results a9.tmps 98 _ (by decide)) a9.defers _ w9 h) ?_ ?_
  rotate_left
  ·intro w' hSw; (try dsimp only at hSw); obtain ⟨ha, hb⟩ := hSw; have r0 := ha.cell 0; have x0 := hb.cell 4; simp only [rwC, ZG, ZH, ZJ] at r0 x0; go_simp; try with_reducible rfl
  try simp only [ZP, ZA, ZB, ZC, ZD, ZE, ZF]
  refine tkH 1 ?_ rfl (fun c a9 w9 h => leaves_same (row_results a9.tmps 99 _ (by decide)) a9.defers _ w9 h) ?_ ?_
  rotate_left
  ·intro w' hSw; (try dsimp only at hSw); obtain ⟨ha, hb⟩ := hSw; have r0 := ha.cell 0; have x0 := hb.cell 4; simp only [rwC, ZG, ZH, ZJ] at r0 x0; go_simp; try with_reducible rfl
  try simp only [ZP, ZA, ZB, ZC, ZD, ZE, ZF]
  refine tkH 2 ?_ rfl (fun c a9 w9 h => leaves_same (row_results a9.tmps 100 _ (by decide)) a9.defers _ w9 h) ?_ ?_
  rotate_left
  ·intro w' hSw; (try dsimp only at hSw); obtain ⟨ha, hb⟩ := hSw; have r0 := ha.cell 0; have x0 := hb.cell 4; simp only [rwC, ZG, ZH, ZJ] at r0 x0; go_simp; try with_reducible rfl
  try simp only [ZP, ZA, ZB, ZC, ZD, ZE, ZF]
  refine tkH 3 ?_ rfl (fun c a9 w9 h => leaves_same (row_results a9.tmps 101 _ (by decide)) a9.defers _ w9 h) ?_ ?_
  rotate_left
  ·intro w' hSw; (try dsimp only at hSw); obtain ⟨ha, hb⟩ := hSw; have r0 := ha.cell 0; have x0 := hb.cell 4; simp only [rwC, ZG, ZH, ZJ] at r0 x0; go_simp; try with_reducible rfl
  try simp only [ZP, ZA, ZB, ZC, ZD, ZE, ZF]
  refine tkH 4 ?_ rfl (fun c a9 w9 h => leaves_same (row_results a9.tmps 102 _ (by decide)) a9.defers _ w9 h) ?_ ?_
  rotate_left
  ·intro w' hSw; (try dsimp only at hSw); obtain ⟨ha, hb⟩ := hSw; have r0 := ha.cell 0; have x0 := hb.cell 4; simp only [rwC, ZG, ZH, ZJ] at r0 x0; go_simp; try with_reducible rfl
  try simp only [ZP, ZA, ZB, ZC, ZD, ZE, ZF]
  refine tkR [5] ?_
  refine ZS rfl (fun K hK => ?_) ZN
  rw [if_pos (by rfl)]
  refine wp_load_row 36 (.tmp 3) rfl R rfl 36 (rwC ⟨4, rt, rsp, rsize, ⟨osp, onum, osize, oel, ofl, opr, oect⟩, delay, ra, rn, rc, marked, e0, e1, e2, ea, en, ec, 0, smooth⟩) (0, 0) _ HS5.out.row.drew Try.underlying36 rfl row_size ?_
  refine hK.out _ _ (⟨HS5.out.row.drew, HST5.out.drew⟩) (fun hHeld => ?_)
  clear hK K
  try simp only [ZP, ZA, ZB, ZC, ZD, ZE, ZF]
  refine tkR [6] ?_
  refine ZS rfl (fun K hK => ?_) ZN
  go_simp
  go_at_call 26
  with_reducible refine (HST.out _ HS5D.out.kn HS5D.out.rg).mono ?_
  rintro y5 W6 ⟨rfl, hf5⟩
  have hs6 := HS5D.out.bl.trans hf5
  exact row_throws rfl (hf5.kept HS5.out.res.drew (by decide) (by decide) (by decide) (by decide)) hs6 (by rw [HRR.out]; exact Nat.le_refl _) HBB.out HRES.out.symm
 | ok k1 =>
  refine wp_region_held_drew (S := (fun w' => Blk w' R 36 (rwC ⟨4, rt, rsp, rsize, ⟨osp, onum, osize, oel, ofl, opr, oect⟩, delay, ra, rn, rc, marked, e0, e1, e2, ea, en, ec, 0, smooth⟩) ∧ Blk w' X 84 #[.func (.func 26) #[] #[], .func (.func 27) #[] #[], .func (.func 28) #[] #[], .func (.func 29) #[] #[], .func (.func 26) #[] #[], .func (.func 26) #[] #[], .func (.func 30) #[] #[], .func (.func 31) #[] #[], .func (.func 31) #[] #[]])) (by kernel_rfl) (⟨HS5.out.row.drew, HST5.out.drew⟩) (fun hHeld => ?_)
  refine tkH 0 ?_ rfl (fun c a9 w9 h => leaves_same (row_results a9.tmps 98 _ (by decide)) a9.defers _ w9 h) ?_ ?_
  rotate_left
  ·intro w' hSw; (try dsimp only at hSw); obtain ⟨ha, hb⟩ := hSw; have r0 := ha.cell 0; have x0 := hb.cell 4; simp only [rwC, ZG, ZH, ZJ] at r0 x0; go_simp; try with_reducible rfl
  try simp only [ZP, ZA, ZB, ZC, ZD, ZE, ZF]
  refine tkH 1 ?_ rfl (fun c a9 w9 h => leaves_same (row_results a9.tmps 99 _ (by decide)) a9.defers _ w9 h) ?_ ?_
  rotate_left
  ·intro w' hSw; (try dsimp only at hSw); obtain ⟨ha, hb⟩ := hSw; have r0 := ha.cell 0; have x0 := hb.cell 4; simp only [rwC, ZG, ZH, ZJ] at r0 x0; go_simp; try with_reducible rfl
  try simp only [ZP, ZA, ZB, ZC, ZD, ZE, ZF]
  refine tkH 2 ?_ rfl (fun c a9 w9 h => leaves_same (row_results a9.tmps 100 _ (by decide)) a9.defers _ w9 h) ?_ ?_
  rotate_left
  ·intro w' hSw; (try dsimp only at hSw); obtain ⟨ha, hb⟩ := hSw; have r0 := ha.cell 0; have x0 := hb.cell 4; simp only [rwC, ZG, ZH, ZJ] at r0 x0; go_simp; try with_reducible rfl
  try simp only [ZP, ZA, ZB, ZC, ZD, ZE, ZF]
  refine tkH 3 ?_ rfl (fun c a9 w9 h => leaves_same (row_results a9.tmps 101 _ (by decide)) a9.defers _ w9 h) ?_ ?_
  rotate_left
  ·intro w' hSw; (try dsimp only at hSw); obtain ⟨ha, hb⟩ := hSw; have r0 := ha.cell 0; have x0 := hb.cell 4; simp only [rwC, ZG, ZH, ZJ] at r0 x0; go_simp; try with_reducible rfl
  try simp only [ZP, ZA, ZB, ZC, ZD, ZE, ZF]
  refine tkH 4 ?_ rfl (fun c a9 w9 h => leaves_same (row_results a9.tmps 102 _ (by decide)) a9.defers _ w9 h) ?_ ?_
  rotate_left
  ·intro w' hSw; (try dsimp only at hSw); obtain ⟨ha, hb⟩ := hSw; have r0 := ha.cell 0; have x0 := hb.cell 4; simp only [rwC, ZG, ZH, ZJ] at r0 x0; go_simp; try with_reducible rfl
  try simp only [ZP, ZA, ZB, ZC, ZD, ZE, ZF]
  refine tkR [5] ?_
  refine ZS rfl (fun K hK => ?_) ZN
  rw [if_pos (by rfl)]
  refine wp_load_row 36 (.tmp 3) rfl R rfl 36 (rwC ⟨4, rt, rsp, rsize, ⟨osp, onum, osize, oel, ofl, opr, oect⟩, delay, ra, rn, rc, marked, e0, e1, e2, ea, en, ec, 0, smooth⟩) (0, 0) _ HS5.out.row.drew Try.underlying36 rfl row_size ?_
  refine hK.out _ _ (⟨HS5.out.row.drew, HST5.out.drew⟩) (fun hHeld => ?_)
  clear hK K
  try simp only [ZP, ZA, ZB, ZC, ZD, ZE, ZF]
  refine tkR [6] ?_
  refine ZS rfl (fun K hK => ?_) ZN
  go_simp
  go_at_call 26
  with_reducible refine (HST.out _ HS5D.out.kn HS5D.out.rg).mono ?_
  rintro y5 W6 ⟨rfl, vf1, vp1, vd1, hk1, hf5⟩
  refine hK.out _ _ (⟨hf5.kept HS5.out.row.drew (by decide) (by decide) (by decide) (by decide), hf5.kept HST5.out.drew (by decide) (by decide) (by decide) (by decide)⟩) (fun hHeld => ?_)
  clear hK K
  try simp only [ZP, ZA, ZB, ZC, ZD, ZE, ZF]
  refine wpAnyH_done (by kernel_rfl) ?_ _
  have hs6 := HS5D.out.far hf5 hk1
  have hp1 := HP1.out k1 rfl
  have HS6 := hide hs6
  have r17 := hs6.row.cell 17
  simp only [rwC, ZG, ZH, ZJ] at r17
  clear hs6 hk1 hf5 HS5 HS5D HST5 HST HP1
  go_wp2_with fail
  clear r17
  go_loopg [108] en (fun kx s108 wr => ∃ (i : Nat) (k2 : KN) (vf2 vp2 vd2 : Value), s108 = ZI ZQ i ∧ i ≤ en ∧ en - i ≤ kx ∧ P k2 ∧ Hid (eventsP ⟨4, rt, rsp, rsize, ⟨osp, onum, osize, oel, ofl, opr, oect⟩, delay, ra, rn, rc, marked, e0, e1, e2, ea, en, ec, 0, smooth⟩ rs k1 es = eventsP ⟨4, rt, rsp, rsize, ⟨osp, onum, osize, oel, ofl, opr, oect⟩, delay, ra, rn, rc, marked, e0, e1, e2, ea, en, ec, 0, smooth⟩ rs k2 (es.drop i)) ∧ RowSt w wr b base k2 vf2 vp2 vd2 R ⟨4, rt, rsp, rsize, ⟨osp, onum, osize, oel, ofl, opr, oect⟩, delay, ra, rn, rc, marked, e0, e1, e2, ea, en, ec, 0, smooth⟩ es rs)
  case atStart => exact ⟨0, k1, vf1, vp1, vd1, rfl, by omega, by omega, hp1, rfl, HS6.out⟩
  case round =>
   clear HS6 hp1
   obtain ⟨i, k2, vf2, vp2, vd2, rfl, hi, hkx, hp2, heq, hs⟩ := hrel
   have HS := hide hs
   have HP2 := hide hp2
   clear hp2
   by_cases hlt : i < en
   ·have hir : i < es.length := by rw [hen]; exact hlt
    obtain ⟨e, he⟩ : ∃ e, es[i]? = some e := ⟨_, List.getElem?_eq_getElem hir⟩
    have hd : es.drop i = e :: es.drop (i + 1) := by
     rw [List.drop_eq_getElem_cons hir]
     congr 1
     rw [List.getElem?_eq_getElem hir] at he
     exact Option.some.inj he
    have hmem : e ∈ es := List.mem_of_getElem? he
    obtain ⟨g, o, rfl, hg, hz⟩ := hs.ev.at he
    have z0 := hz 0 _ (by omega) rfl
    have z1 := hz 1 _ (by omega) rfl
    have z2 := hz 2 _ (by omega) rfl
    have z3 := hz 3 _ (by omega) rfl
    simp only [Nat.add_zero] at z0
    have hin : (i : Int) < (en : Int) := by omega
    have HEQ : Hid (eventsP ⟨4, rt, rsp, rsize, ⟨osp, onum, osize, oel, ofl, opr, oect⟩, delay, ra, rn, rc, marked, e0, e1, e2, (some ⟨g, o, none⟩), en, ec, 0, smooth⟩ rs k1 es = match eventP k2 ⟨4, rt, rsp, rsize, ⟨osp, onum, osize, oel, ofl, opr, oect⟩, delay, ra, rn, rc, marked, e0, e1, e2, (some ⟨g, o, none⟩), en, ec, 0, smooth⟩ rs e with
      | .ok k3 => eventsP ⟨4, rt, rsp, rsize, ⟨osp, onum, osize, oel, ofl, opr, oect⟩, delay, ra, rn, rc, marked, e0, e1, e2, (some ⟨g, o, none⟩), en, ec, 0, smooth⟩ rs k3 (es.drop (i + 1))
      | .error n => .error n) := by
     show _ = _
     rw [heq, hd]
     rfl
    have hbx : Below wr.heap.size wr (wr.alloc (.cells #[ZI ZQ e.kind, ZI ZQ e.sp, ZI ZQ e.num, ZI ZQ e.n] 46)) := (Below.refl _ _).alloc (Nat.le_refl _) _
    have HSX := hide (hs.later hbx)
    have HMEM := hide hmem
    clear heq hd hir he hz hs hbx hmem
    go_wp2_with (refine wpList_load_row rfl 36 (.tmp 3) rfl R rfl 36 (rwC ⟨4, rt, rsp, rsize, ⟨osp, onum, osize, oel, ofl, opr, oect⟩, delay, ra, rn, rc, marked, e0, e1, e2, (some ⟨g, o, none⟩), en, ec, 0, smooth⟩) (0, 0) _ HSX.out.row Try.underlying36 rfl row_size ?_)
    with_reducible refine (HEV.out k2 e _ vf2 vp2 vd2 HP2.out HMEM.out HSX.out.kn HSX.out.rg).mono ?_
    cases hq : eventP k2 ⟨4, rt, rsp, rsize, ⟨osp, onum, osize, oel, ofl, opr, oect⟩, delay, ra, rn, rc, marked, e0, e1, e2, (some ⟨g, o, none⟩), en, ec, 0, smooth⟩ rs e with
    | error n =>
     rintro y7 W7 ⟨rfl, hf7⟩
     have HE : Hid (res = .error n) := by
      show _ = _
      rw [← HRES.out]
      unfold goesP
      simp only
      rw [HEQ.out, hq]
     exact row_throws rfl (hf7.kept HSX.out.res (by decide) (by decide) (by decide) (by decide)) (HSX.out.bl.trans hf7) (by rw [HRR.out]; exact Nat.le_refl _) HBB.out HE.out
    | ok k3 =>
     rintro y7 W7 ⟨rfl, vf3, vp3, vd3, hk3, hf7⟩
     have hs7 := HSX.out.far hf7 hk3
     have HS7 := hide hs7
     have HP3 := hide (HPE.out k2 e k3 HP2.out HMEM.out hq)
     rw [hq] at HEQ
     have HEQ7 := hide HEQ.out
     clear hs7 hk3 hf7 hq HEQ HSX HS z0 z1 z2 z3
     go_wp2_with fail
     go_roundg (en - (i + 1))
     case rel => exact ⟨i + 1, k3, vf3, vp3, vd3, by go_num, by omega, by omega, HP3.out, HEQ7.out, HS7.out⟩
     case measure => omega
   ·obtain rfl : en = i := by omega
    have hin : ¬ (en : Int) < (en : Int) := by omega
    have HEQ : Hid (eventsP ⟨4, rt, rsp, rsize, ⟨osp, onum, osize, oel, ofl, opr, oect⟩, delay, ra, rn, rc, marked, e0, e1, e2, ea, en, ec, 0, smooth⟩ rs k1 es = .ok k2) := by
     show _ = _
     rw [heq, List.drop_of_length_le (by rw [hen]; exact Nat.le_refl _)]
     rfl
    clear heq
    have HTI := hide (fun W => timed_any ⟨4, rt, rsp, rsize, ⟨osp, onum, osize, oel, ofl, opr, oect⟩, delay, ra, rn, rc, marked, e0, e1, e2, ea, en, ec, 0, smooth⟩ W)
    rw [show timedB ⟨4, rt, rsp, rsize, ⟨osp, onum, osize, oel, ofl, opr, oect⟩, delay, ra, rn, rc, marked, e0, e1, e2, ea, en, ec, 0, smooth⟩ = true from rfl] at HTI
    clear hs
    go_wp2_with (refine wpList_load_row rfl 36 (.tmp 3) rfl R rfl 36 (rwC ⟨4, rt, rsp, rsize, ⟨osp, onum, osize, oel, ofl, opr, oect⟩, delay, ra, rn, rc, marked, e0, e1, e2, ea, en, ec, 0, smooth⟩) (0, 0) _ HS.out.row Try.underlying36 rfl row_size ?_)
    with_reducible refine (HTI.out _).mono ?_
    rintro y8 W8 ⟨rfl, hb8⟩
    have hs8 := HS.out.later hb8
    have HS8 := hide hs8
    clear hb8 HS HTI hs8
    have HE : Hid (res = .ok { k2 with pieces := k2.pieces ++ [(⟨rt, k2.window, smooth⟩ : PIE)] }) := by
     show _ = _
     rw [← HRES.out]
     unfold goesP
     simp only
     rw [HEQ.out]
     rfl
    have hs := HS8.out
    have hpl2 := HPL.out k2 HP2.out
    obtain ⟨i0, hi0, hz0, hz1, hz2⟩ := info_parts pie_info
    obtain ⟨A8, c8, rfl⟩ := own_sl hs.kn.pc
    have ho := hs.kn.pc
    obtain ⟨M, hM⟩ : ∃ x, k2.pieces.length = x := ⟨_, rfl⟩
    rw [hM] at ho hpl2
    obtain ⟨xs, hxs⟩ : ∃ x, k2.pieces.flatMap pieL = x := ⟨_, rfl⟩
    rw [hxs] at ho
    have k27 := hs.kn.blk.cell 27
    have f27 := hs.kn.blk.frozen 27
    have hsz11 := hs.bl.bl.size
    have hbase : base ≤ W8.heap.size := hs.ge
    simp only [knC, hM, ZG, ZH, ZJ] at k27
    have hneR := own_ne ho hs.row (by decide)
    have hneS := own_ne ho hs.res (by decide)
    have hneB := own_ne ho hs.kn.blk (by decide)
    have k27a : (W8.alloc (.cells #[ZI ZQ rt, ZI ZQ k2.window, ZI ZQ smooth] 53)).cell? ⟨b, 27, none⟩ = some (.slice A8 M c8) := by have := (hs.kn.blk.alloc (.cells #[ZI ZQ rt, ZI ZQ k2.window, ZI ZQ smooth] 53)).cell 27; rw [this]; simp [knC, hM]
    have k27b : (W8.alloc (.cells #[ZI ZQ rt, ZI ZQ k2.window, ZI ZQ smooth] 53)).drew.cell? ⟨b, 27, none⟩ = some (.slice A8 M c8) := k27a
    have HPX : Hid ((k2.pieces ++ [(⟨rt, k2.window, smooth⟩ : PIE)]).length = M + 1 ∧ (k2.pieces ++ [(⟨rt, k2.window, smooth⟩ : PIE)]).flatMap pieL = xs ++ [ZI ZQ rt, ZI ZQ k2.window, ZI ZQ smooth]) := ⟨by rw [List.length_append, hM]; rfl, by rw [List.flatMap_append, hxs]; rfl⟩
    have hM' := hide hM
    have HW11 := hide (fun W (h : Blk W b 58 (knC k2 vf2 (.slice A8 k2.pieces.length c8) vd2)) => (show W.cell? ⟨b, 11, none⟩ = some (ZI ZQ k2.window) from h.cell 11))
    have hrb : R ≠ b := blk_ne hs.row hs.kn.blk (by decide)
    clear hM hxs HEQ HP2
    go_wp2_with fail
    refine wp_region_held_drew (S := (fun w' => Blk w' R 36 (rwC ⟨4, rt, rsp, rsize, ⟨osp, onum, osize, oel, ofl, opr, oect⟩, delay, ra, rn, rc, marked, e0, e1, e2, ea, en, ec, 0, smooth⟩) ∧ w'.cell? ⟨b, 11, none⟩ = some (ZI ZQ k2.window))) (by kernel_rfl) (⟨hs.row.drew, HW11.out _ hs.kn.blk.drew⟩) (fun hHeld => ?_)
    refine tkH 0 ?_ rfl (fun c a9 w9 h => leaves_same (row_results a9.tmps 119 _ (by decide)) a9.defers _ w9 h) ?_ ?_
    rotate_left
    ·intro w' hSw; (try dsimp only at hSw); obtain ⟨ha, hb⟩ := hSw; have r1 := ha.cell 1; have r19 := ha.cell 19; simp only [rwC, ZG, ZH, ZJ] at r1 r19; go_simp; try with_reducible rfl
    try simp only [ZP, ZA, ZB, ZC, ZD, ZE, ZF]
    refine tkH 1 ?_ rfl (fun c a9 w9 h => leaves_same (row_results a9.tmps 120 _ (by decide)) a9.defers _ w9 h) ?_ ?_
    rotate_left
    ·intro w' hSw; (try dsimp only at hSw); obtain ⟨ha, hb⟩ := hSw; have r1 := ha.cell 1; have r19 := ha.cell 19; simp only [rwC, ZG, ZH, ZJ] at r1 r19; go_simp; try with_reducible rfl
    try simp only [ZP, ZA, ZB, ZC, ZD, ZE, ZF]
    refine tkH 2 ?_ rfl (fun c a9 w9 h => leaves_same (row_results a9.tmps 121 _ (by decide)) a9.defers _ w9 h) ?_ ?_
    rotate_left
    ·intro w' hSw; (try dsimp only at hSw); obtain ⟨ha, hb⟩ := hSw; have r1 := ha.cell 1; have r19 := ha.cell 19; simp only [rwC, ZG, ZH, ZJ] at r1 r19; go_simp; try with_reducible rfl
    try simp only [ZP, ZA, ZB, ZC, ZD, ZE, ZF]
    refine tkH 3 ?_ rfl (fun c a9 w9 h => leaves_same (row_results a9.tmps 122 _ (by decide)) a9.defers _ w9 h) ?_ ?_
    rotate_left
    ·intro w' hSw; (try dsimp only at hSw); obtain ⟨ha, hb⟩ := hSw; have r1 := ha.cell 1; have r19 := ha.cell 19; simp only [rwC, ZG, ZH, ZJ] at r1 r19; go_simp; try with_reducible rfl
    try simp only [ZP, ZA, ZB, ZC, ZD, ZE, ZF]
    refine tkH 5 ?_ rfl (fun c a9 w9 h => leaves_same (row_results a9.tmps 124 _ (by decide)) a9.defers _ w9 h) ?_ ?_
    rotate_left
    ·intro w' hSw; (try dsimp only at hSw); obtain ⟨ha, hb⟩ := hSw; have r1 := ha.cell 1; have r19 := ha.cell 19; simp only [rwC, ZG, ZH, ZJ] at r1 r19; go_simp; try with_reducible rfl
    try simp only [ZP, ZA, ZB, ZC, ZD, ZE, ZF]
    refine tkH 6 ?_ rfl (fun c a9 w9 h => leaves_same (row_results a9.tmps 125 _ (by decide)) a9.defers _ w9 h) ?_ ?_
    rotate_left
    ·intro w' hSw; (try dsimp only at hSw); obtain ⟨ha, hb⟩ := hSw; have r1 := ha.cell 1; have r19 := ha.cell 19; simp only [rwC, ZG, ZH, ZJ] at r1 r19; go_simp; try with_reducible rfl
    try simp only [ZP, ZA, ZB, ZC, ZD, ZE, ZF]
    refine tkH 7 ?_ rfl (fun c a9 w9 h => leaves_same (row_results a9.tmps 126 _ (by decide)) a9.defers _ w9 h) ?_ ?_
    rotate_left
    ·intro w' hSw; (try dsimp only at hSw); obtain ⟨ha, hb⟩ := hSw; have r1 := ha.cell 1; have r19 := ha.cell 19; simp only [rwC, ZG, ZH, ZJ] at r1 r19; go_simp; try with_reducible rfl
    try simp only [ZP, ZA, ZB, ZC, ZD, ZE, ZF]
    refine tkH 8 ?_ rfl (fun c a9 w9 h => leaves_same (row_results a9.tmps 127 _ (by decide)) a9.defers _ w9 h) ?_ ?_
    rotate_left
    ·intro w' hSw; (try dsimp only at hSw); obtain ⟨ha, hb⟩ := hSw; have r1 := ha.cell 1; have r19 := ha.cell 19; simp only [rwC, ZG, ZH, ZJ] at r1 r19; go_simp; try with_reducible rfl
    try simp only [ZP, ZA, ZB, ZC, ZD, ZE, ZF]
    refine tkH 9 ?_ rfl (fun c a9 w9 h => leaves_same (row_results a9.tmps 128 _ (by decide)) a9.defers _ w9 h) ?_ ?_
    rotate_left
    ·intro w' hSw; (try dsimp only at hSw); obtain ⟨ha, hb⟩ := hSw; have r1 := ha.cell 1; have r19 := ha.cell 19; simp only [rwC, ZG, ZH, ZJ] at r1 r19; go_simp; try with_reducible rfl
    try simp only [ZP, ZA, ZB, ZC, ZD, ZE, ZF]
    refine tkH 10 ?_ rfl (fun c a9 w9 h => leaves_same (row_results a9.tmps 129 _ (by decide)) a9.defers _ w9 h) ?_ ?_
    rotate_left
    ·intro w' hSw; (try dsimp only at hSw); obtain ⟨ha, hb⟩ := hSw; have r1 := ha.cell 1; have r19 := ha.cell 19; simp only [rwC, ZG, ZH, ZJ] at r1 r19; go_simp; try with_reducible rfl
    try simp only [ZP, ZA, ZB, ZC, ZD, ZE, ZF]
    refine tkH 11 ?_ rfl (fun c a9 w9 h => leaves_same (row_results a9.tmps 130 _ (by decide)) a9.defers _ w9 h) ?_ ?_
    rotate_left
    ·intro w' hSw; (try dsimp only at hSw); obtain ⟨ha, hb⟩ := hSw; have r1 := ha.cell 1; have r19 := ha.cell 19; simp only [rwC, ZG, ZH, ZJ] at r1 r19; go_simp; try with_reducible rfl
    try simp only [ZP, ZA, ZB, ZC, ZD, ZE, ZF]
    refine tkH 12 ?_ rfl (fun c a9 w9 h => leaves_same (row_results a9.tmps 131 _ (by decide)) a9.defers _ w9 h) ?_ ?_
    rotate_left
    ·intro w' hSw; (try dsimp only at hSw); obtain ⟨ha, hb⟩ := hSw; have r1 := ha.cell 1; have r19 := ha.cell 19; simp only [rwC, ZG, ZH, ZJ] at r1 r19; go_simp; try with_reducible rfl
    try simp only [ZP, ZA, ZB, ZC, ZD, ZE, ZF]
    refine tkH 13 ?_ rfl (fun c a9 w9 h => leaves_same (row_results a9.tmps 132 _ (by decide)) a9.defers _ w9 h) ?_ ?_
    rotate_left
    ·intro w' hSw; (try dsimp only at hSw); obtain ⟨ha, hb⟩ := hSw; have r1 := ha.cell 1; have r19 := ha.cell 19; simp only [rwC, ZG, ZH, ZJ] at r1 r19; go_simp; try with_reducible rfl
    try simp only [ZP, ZA, ZB, ZC, ZD, ZE, ZF]
    refine tkR [4, 14] ?_
    refine ZS rfl (fun K hK => ?_) ?_
    ·skip
     go_simp
     refine hK.out _ _ (⟨hs.row.drew, HW11.out _ hs.kn.blk.drew⟩) (fun hHeld => ?_)
     clear hK K
     try simp only [ZP, ZA, ZB, ZC, ZD, ZE, ZF]
     refine tkR [14] ?_
     refine ZS rfl (fun K hK => ?_) ZN
     go_simp
     refine hK.out _ _ (⟨hs.row.alloc _, HW11.out _ (hs.kn.blk.alloc _)⟩) (fun hHeld => ?_)
     clear hK K
     try simp only [ZP, ZA, ZB, ZC, ZD, ZE, ZF]
     refine tkR [15] ?_
     refine ZS rfl (fun K hK => ?_) ZN
     refine step_append_any _ rfl (.tmp 123) (.tmp 133) _ rfl base 53 i0 _ 3 24 Try.underlying54 hi0 hz0 hz1 hz2 rfl (by decide) (.slice A8 M c8) M xs rfl (by exact ho.alloc _) (W8.heap.size + 1) (some ⟨W8.heap.size, 0, none⟩) 1 1 [ZI ZQ rt, ZI ZQ k2.window, ZI ZQ smooth] rfl (by exact reads_lit (blk_new_at (by simp)) (by simp) rfl) (by simp [Value.oneCell']) (by unfold maxLen; omega) (by omega) (by simp; omega) ?_; intro v8 w8 hown8 hg8 hat8; obtain ⟨g8, cap8, rfl⟩ := own_form hown8; have hr8 := blk_grown (t := 36) (by exact hs.row.alloc _) hg8 hneR; have hb8 := blk_grown (t := 58) (by exact hs.kn.blk.alloc _) hg8 hneB; have y8 := hb8.cell 27; have f8 := hb8.frozen 27
     try go_simp
     refine hK.out _ _ (⟨hr8, HW11.out _ hb8⟩) (fun hHeld => ?_)
     clear hK K
     try simp only [ZP, ZA, ZB, ZC, ZD, ZE, ZF]
     refine tkH 16 ?_ rfl (fun c a9 w9 h => leaves_same (row_results a9.tmps 135 _ (by decide)) a9.defers _ w9 h) ?_ ?_
     rotate_left
     ·intro w' hSw; (try dsimp only at hSw); obtain ⟨ha, hb⟩ := hSw; have r1 := ha.cell 1; have r19 := ha.cell 19; simp only [rwC, ZG, ZH, ZJ] at r1 r19; go_simp; try with_reducible rfl
     try simp only [ZP, ZA, ZB, ZC, ZD, ZE, ZF]
     refine tkH 17 ?_ rfl (fun c a9 w9 h => leaves_same (row_results a9.tmps 136 _ (by decide)) a9.defers _ w9 h) ?_ ?_
     rotate_left
     ·intro w' hSw; (try dsimp only at hSw); obtain ⟨ha, hb⟩ := hSw; have r1 := ha.cell 1; have r19 := ha.cell 19; simp only [rwC, ZG, ZH, ZJ] at r1 r19; go_simp; try with_reducible rfl
     try simp only [ZP, ZA, ZB, ZC, ZD, ZE, ZF]
     refine tkR [18] ?_
     refine ZS rfl (fun K hK => ?_) ZN
     go_simp
     refine hK.out _ _ (⟨hr8.far (p := ⟨b, 27, none⟩) hrb _, (Blk.set hb8 27 _).cell 11⟩) (fun hHeld => ?_)
     clear hK K
     try simp only [ZP, ZA, ZB, ZC, ZD, ZE, ZF]
     refine wpAnyH_done (by kernel_rfl) ?_ _
     have hs9 := RowSt.pushPiece hs (vp := .slice A8 k2.pieces.length c8) (p := ⟨rt, k2.window, smooth⟩) (X := (.cells #[ZI ZQ rt, ZI ZQ k2.window, ZI ZQ smooth] 53)) (by rw [hM'.out]; exact ⟨hg8.os, hg8.tape, hg8.output, hg8.size, hg8.block⟩) (by rw [HPX.out.1, HPX.out.2]; exact hown8)
     have HS9 := hide hs9
     have q0 := hs9.res.cell 0
     have qf := hs9.res.frozen 0
     simp only [ZG, ZH] at q0
     clear hs9
     go_wp2_with fail
     refine leaves_cons (f := 21) (args := #[.pointer (some ⟨R + 1, 0, none⟩)]) (by simp) (by simp [go_sem]) ?_
     refine (catch_nil (R + 1) _).mono ?_
     rintro e6 u6 w6 ⟨rfl, rfl, rfl⟩
     have z0 := (HS9.out.res.set 0 (ZI ZQ 0)).cell 0
     simp at z0
     simp [Leaves, settle, results, Try.results15, go_sem, z0]
     exact row_ends HE.out HS9.out (by rw [HRR.out]; exact Nat.le_refl _) HBB.out
    refine ZS rfl (fun K hK => ?_) ZN
    go_simp
    refine hK.out _ _ (⟨hs.row.alloc _, HW11.out _ (hs.kn.blk.alloc _)⟩) (fun hHeld => ?_)
    clear hK K
    try simp only [ZP, ZA, ZB, ZC, ZD, ZE, ZF]
    refine tkR [4] ?_
    refine ZS rfl (fun K hK => ?_) ZN
    go_simp
    refine hK.out _ _ (⟨hs.row.alloc _, HW11.out _ (hs.kn.blk.alloc _)⟩) (fun hHeld => ?_)
    clear hK K
    try simp only [ZP, ZA, ZB, ZC, ZD, ZE, ZF]
    refine tkR [15] ?_
    refine ZS rfl (fun K hK => ?_) ZN
    refine step_append_any _ rfl (.tmp 123) (.tmp 133) _ rfl base 53 i0 _ 3 24 Try.underlying54 hi0 hz0 hz1 hz2 rfl (by decide) (.slice A8 M c8) M xs rfl (by exact ho.alloc _) (W8.heap.size + 1) (some ⟨W8.heap.size, 0, none⟩) 1 1 [ZI ZQ rt, ZI ZQ k2.window, ZI ZQ smooth] rfl (by exact reads_lit (blk_new_at (by simp)) (by simp) rfl) (by simp [Value.oneCell']) (by unfold maxLen; omega) (by omega) (by simp; omega) ?_; intro v8 w8 hown8 hg8 hat8; obtain ⟨g8, cap8, rfl⟩ := own_form hown8; have hr8 := blk_grown (t := 36) (by exact hs.row.alloc _) hg8 hneR; have hb8 := blk_grown (t := 58) (by exact hs.kn.blk.alloc _) hg8 hneB; have y8 := hb8.cell 27; have f8 := hb8.frozen 27
    try go_simp
    refine hK.out _ _ (⟨hr8, HW11.out _ hb8⟩) (fun hHeld => ?_)
    clear hK K
    try simp only [ZP, ZA, ZB, ZC, ZD, ZE, ZF]
    refine tkH 16 ?_ rfl (fun c a9 w9 h => leaves_same (row_results a9.tmps 135 _ (by decide)) a9.defers _ w9 h) ?_ ?_
    rotate_left
    ·intro w' hSw; (try dsimp only at hSw); obtain ⟨ha, hb⟩ := hSw; have r1 := ha.cell 1; have r19 := ha.cell 19; simp only [rwC, ZG, ZH, ZJ] at r1 r19; go_simp; try with_reducible rfl
    try simp only [ZP, ZA, ZB, ZC, ZD, ZE, ZF]
    refine tkH 17 ?_ rfl (fun c a9 w9 h => leaves_same (row_results a9.tmps 136 _ (by decide)) a9.defers _ w9 h) ?_ ?_
    rotate_left
    ·intro w' hSw; (try dsimp only at hSw); obtain ⟨ha, hb⟩ := hSw; have r1 := ha.cell 1; have r19 := ha.cell 19; simp only [rwC, ZG, ZH, ZJ] at r1 r19; go_simp; try with_reducible rfl
    try simp only [ZP, ZA, ZB, ZC, ZD, ZE, ZF]
    refine tkR [18] ?_
    refine ZS rfl (fun K hK => ?_) ZN
    go_simp
    refine hK.out _ _ (⟨hr8.far (p := ⟨b, 27, none⟩) hrb _, (Blk.set hb8 27 _).cell 11⟩) (fun hHeld => ?_)
    clear hK K
    try simp only [ZP, ZA, ZB, ZC, ZD, ZE, ZF]
    refine wpAnyH_done (by kernel_rfl) ?_ _
    have hs9 := RowSt.pushPiece hs (vp := .slice A8 k2.pieces.length c8) (p := ⟨rt, k2.window, smooth⟩) (X := (.cells #[ZI ZQ rt, ZI ZQ k2.window, ZI ZQ smooth] 53)) (by rw [hM'.out]; exact ⟨hg8.os, hg8.tape, hg8.output, hg8.size, hg8.block⟩) (by rw [HPX.out.1, HPX.out.2]; exact hown8)
    have HS9 := hide hs9
    have q0 := hs9.res.cell 0
    have qf := hs9.res.frozen 0
    simp only [ZG, ZH] at q0
    clear hs9
    go_wp2_with fail
    refine leaves_cons (f := 21) (args := #[.pointer (some ⟨R + 1, 0, none⟩)]) (by simp) (by simp [go_sem]) ?_
    refine (catch_nil (R + 1) _).mono ?_
    rintro e6 u6 w6 ⟨rfl, rfl, rfl⟩
    have z0 := (HS9.out.res.set 0 (ZI ZQ 0)).cell 0
    simp at z0
    simp [Leaves, settle, results, Try.results15, go_sem, z0]
    exact row_ends HE.out HS9.out (by rw [HRR.out]; exact Nat.le_refl _) HBB.out
end Go.Proofs.Ytidfngcclbhoaaa
