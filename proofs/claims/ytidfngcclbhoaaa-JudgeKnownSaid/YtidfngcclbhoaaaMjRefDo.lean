/-
 The document: does, kinds 0, 9, 6, 3, 1: 3 texts in one (JrDoZ, JrDoG, JrDoS).
-/
import Derived.Test.YtidfngcclbhoaaaMjRefB
import Derived.StillTail
import Derived.Deep.RegionHeld3
namespace Go.Proofs.Ytidfngcclbhoaaa
open List renaming getElem_toArray → ZA, getElem_cons_zero → ZB, getElem_cons_succ → ZC, setIfInBounds_toArray → ZD, set_cons_zero → ZE, set_cons_succ → ZF, getElem?_toArray → ZG, getElem?_cons_zero → ZH, getElem?_cons_succ → ZJ
open Go.Act renaming put → ZP
open Go.Value renaming int → ZI
open Go.IntKind renaming i64 → ZQ
set_option linter.unusedSimpArgs false
set_option linter.unusedVariables false
open Go.RowKit Go.Shelf
set_option maxRecDepth 100000 in
set_option maxHeartbeats 8000000 in
theorem rdoes_zero (b base : Nat) (k : KN) (vL vA vR vP : Value) (r : RW) (rs : List RGJ) (es : List EVJ) (w : World) (hK : KrAt w b base k vL vA vR vP) (hR : LieAt rgL 2 w base r.ra rs) (hE : LieAt evL 4 w base r.ea es) (hen : es.length = r.en) (henl : r.en ≤ 2000) (hkd : r.kind = 0) 
  (I : Nat → KN → Prop) (hI0 : I 0 (k)) (hIk : ∀ i k1 e k2, I i k1 → es[i]? = some e → eventP k1 r rs e = .ok k2 → I (i + 1) k2) (hIp : ∀ i k1, I i k1 → k1.pieces.length ≤ 1900)
  (hEv : ∀ i k1 vL vA vR vP e W, I i k1 → es[i]? = some e → KrAt W b base k1 vL vA vR vP → LieAt rgL 2 W base r.ra rs → Calls Try.prog 80 #[.pointer (some ⟨b, 0, none⟩), .agg (rwC r), .agg #[ZI ZQ e.kind, ZI ZQ e.sp, ZI ZQ e.num, ZI ZQ e.n]] W (RefPost b base W (eventP k1 r rs e))) :
  Calls Try.prog 66 #[.pointer (some ⟨b, 0, none⟩), .agg (rwC r)] w (RefPost b base w (goesP r rs es (.ok (k)))) := by
 obtain ⟨kind, rt, rsp, rsize, ⟨osp, onum, osize, oel, ofl, opr, oect⟩, delay, ra, rn, rc, marked, e0, e1, e2, ea, en, ec, err, smooth⟩ := r
 simp only at hR hE hen henl hkd hI0  ⊢
 subst hkd
 obtain ⟨res, hres⟩ : ∃ z9, goesP ⟨0, rt, rsp, rsize, ⟨osp, onum, osize, oel, ofl, opr, oect⟩, delay, ra, rn, rc, marked, e0, e1, e2, ea, en, ec, err, smooth⟩ rs es (.ok (k)) = z9 := ⟨_, rfl⟩
 rw [hres]
 have HRES := hide hres
 clear hres
 have hbb : base ≤ w.heap.size := Nat.le_of_lt (Nat.lt_of_le_of_lt hK.ge hK.blk.lt)
 have ha : Below w.heap.size w (w.alloc (.cells #[ZI ZQ 0, ZI ZQ rt, ZI ZQ rsp, ZI ZQ rsize, ZI ZQ osp, ZI ZQ onum, ZI ZQ osize, .bool oel, .bool ofl, .bool opr, .bool oect, ZI ZQ delay, .slice ra rn rc, .bool marked, ZI ZQ e0, ZI ZQ e1, ZI ZQ e2, .slice ea en ec, ZI ZQ err, ZI ZQ smooth] 93)) := (Below.refl _ _).alloc (Nat.le_refl _) _
 have hs0 : RdSt w (w.alloc (.cells #[ZI ZQ 0, ZI ZQ rt, ZI ZQ rsp, ZI ZQ rsize, ZI ZQ osp, ZI ZQ onum, ZI ZQ osize, .bool oel, .bool ofl, .bool opr, .bool oect, ZI ZQ delay, .slice ra rn rc, .bool marked, ZI ZQ e0, ZI ZQ e1, ZI ZQ e2, .slice ea en ec, ZI ZQ err, ZI ZQ smooth] 93)) b base k vL vA vR vP w.heap.size ⟨0, rt, rsp, rsize, ⟨osp, onum, osize, oel, ofl, opr, oect⟩, delay, ra, rn, rc, marked, e0, e1, e2, ea, en, ec, err, smooth⟩ es rs := ⟨hK.later ha, Blk.new _ _ _, hE, hR, FarR.of_below ha hbb⟩
 unfold rwC
 obtain ⟨W1, hW1⟩ : ∃ x, w.alloc (.cells #[ZI ZQ 0, ZI ZQ rt, ZI ZQ rsp, ZI ZQ rsize, ZI ZQ osp, ZI ZQ onum, ZI ZQ osize, .bool oel, .bool ofl, .bool opr, .bool oect, ZI ZQ delay, .slice ra rn rc, .bool marked, ZI ZQ e0, ZI ZQ e1, ZI ZQ e2, .slice ea en ec, ZI ZQ err, ZI ZQ smooth] 93) = x := ⟨_, rfl⟩
 obtain ⟨R, hRr⟩ : ∃ x, w.heap.size = x := ⟨_, rfl⟩
 go_enter Try.func66, Try.ntmps66
 go_upto_region 1 with (fail)
 rw [hW1, hRr] at hs0
 try rw [hW1]
 try rw [hRr]
 have HS := hide hs0
 have HE := hide hE
 have HIK := hide hIk
 have HIP := hide hIp
 have HEV := hide hEv
 have HI0 := hide hI0
 have HEN := hide hen
 have r0 := hs0.row.cell 0
 have r2 := hs0.row.cell 2
 have r17 := hs0.row.cell 17
 simp only [rwC, ZG, ZH, ZJ] at r0 r2 r17
 clear hs0 hW1 hRr ha hR hE hIk hIp hEv hI0 hK hen
 go_wp2_with fail
 go_loopg [7, 8] en (fun kx s7 s8 wr => ∃ i : Nat, ∃ k2 vL2 vA2 vR2 vP2, s7 = ZI ZQ i ∧ i ≤ en ∧ en - i ≤ kx ∧ I i k2 ∧ Hid (eventsP ⟨0, rt, rsp, rsize, ⟨osp, onum, osize, oel, ofl, opr, oect⟩, delay, ra, rn, rc, marked, e0, e1, e2, ea, en, ec, err, smooth⟩ rs (k) es = eventsP ⟨0, rt, rsp, rsize, ⟨osp, onum, osize, oel, ofl, opr, oect⟩, delay, ra, rn, rc, marked, e0, e1, e2, ea, en, ec, err, smooth⟩ rs k2 (es.drop i)) ∧ RdSt w wr b base k2 vL2 vA2 vR2 vP2 R ⟨0, rt, rsp, rsize, ⟨osp, onum, osize, oel, ofl, opr, oect⟩, delay, ra, rn, rc, marked, e0, e1, e2, ea, en, ec, err, smooth⟩ es rs)
 case atStart => exact ⟨0, _, _, _, _, _, rfl, by omega, by omega, HI0.out, rfl, HS.out⟩
 case round =>
  obtain ⟨i, k2, vL2, vA2, vR2, vP2, rfl, hi, hkx, hP2, heq, hs⟩ := hrel
  have HP2 := hide hP2
  have r0 := hs.row.cell 0
  have r17 := hs.row.cell 17
  simp only [rwC, ZG, ZH, ZJ] at r0 r17
  clear hP2 HS
  by_cases hlt : i < en
  ·have hir : i < es.length := by rw [HEN.out]; exact hlt
   obtain ⟨e, he⟩ : ∃ e, es[i]? = some e := ⟨_, List.getElem?_eq_getElem hir⟩
   have hmem := he
   have hd := ev_drop (r := ⟨0, rt, rsp, rsize, ⟨osp, onum, osize, oel, ofl, opr, oect⟩, delay, ra, rn, rc, marked, e0, e1, e2, ea, en, ec, err, smooth⟩) (rs := rs) (k := k2) he
   obtain ⟨g, o, rfl, hg, hz⟩ := hs.ev.at he
   have z0 := hz 0 _ (by omega) rfl
   have z1 := hz 1 _ (by omega) rfl
   have z2 := hz 2 _ (by omega) rfl
   have z3 := hz 3 _ (by omega) rfl
   simp only [Nat.add_zero] at z0
   have hin : (i : Int) < (en : Int) := by omega
   have HEQ : Hid (eventsP ⟨0, rt, rsp, rsize, ⟨osp, onum, osize, oel, ofl, opr, oect⟩, delay, ra, rn, rc, marked, e0, e1, e2, (some ⟨g, o, none⟩), en, ec, err, smooth⟩ rs (k) es = match eventP k2 ⟨0, rt, rsp, rsize, ⟨osp, onum, osize, oel, ofl, opr, oect⟩, delay, ra, rn, rc, marked, e0, e1, e2, (some ⟨g, o, none⟩), en, ec, err, smooth⟩ rs e with
     | .ok k3 => eventsP ⟨0, rt, rsp, rsize, ⟨osp, onum, osize, oel, ofl, opr, oect⟩, delay, ra, rn, rc, marked, e0, e1, e2, (some ⟨g, o, none⟩), en, ec, err, smooth⟩ rs k3 (es.drop (i + 1))
     | .error n => .error n) := by
    show _ = _
    rw [heq, hd]
    rfl
   have HS := hide hs
   have HMEM := hide hmem
   have y0 : wr.drew.cell? _ = _ := z0
   have y1 : wr.drew.cell? _ = _ := z1
   have y2 : wr.drew.cell? _ = _ := z2
   have y3 : wr.drew.cell? _ = _ := z3
   have y17 : wr.drew.cell? ⟨R, 17, none⟩ = _ := r17
   have HSD := hide hs.drew
   clear heq hd hir he hz hs hmem
   go_upto_region 23 with (fail)
   refine wp_region_still_tail 7 (by kernel_rfl) (by kernel_rfl) ?_
   simp only [List.take_succ_cons, List.take_zero, List.drop_succ_cons, List.drop_zero]
   change wpStill _ _ wr.drew _ _ _
   refine wpStill_step (fun K hK => ?_); go_simp; with_reducible refine hK _ ?_; clear hK K
   refine wpStill_load_row rfl 93 (.tmp 3) rfl R rfl 93 (rwC ⟨0, rt, rsp, rsize, ⟨osp, onum, osize, oel, ofl, opr, oect⟩, delay, ra, rn, rc, marked, e0, e1, e2, (some ⟨g, o, none⟩), en, ec, err, smooth⟩) (0, 0) _ HSD.out.row Try.underlying93 rfl rrow_size ?_
   try simp only [ZP, ZA, ZB, ZC, ZD, ZE, ZF]
   repeat (refine wpStill_step (fun K hK => ?_); go_simp; with_reducible refine hK _ ?_; clear hK K)
   refine wpStill_nil ?_
   change wpList _ _ _ _ _ wr.drew
   clear z0 z1 z2 z3 y0 y1 y2 y3 r0 r17 y17
   go_wp2_with fail
   with_reducible refine (HEV.out i k2 vL2 vA2 vR2 vP2 e _ HP2.out HMEM.out HSD.out.kn HSD.out.rg).mono ?_
   cases hq : eventP k2 ⟨0, rt, rsp, rsize, ⟨osp, onum, osize, oel, ofl, opr, oect⟩, delay, ra, rn, rc, marked, e0, e1, e2, (some ⟨g, o, none⟩), en, ec, err, smooth⟩ rs e with
   | error n =>
    rintro y7 W7 ⟨rfl, hf7⟩
    have HE9 : Hid (res = .error n) := by
     show _ = _
     rw [← HRES.out]
     unfold goesP
     simp only
     rw [HEQ.out, hq]
    have hn0 := event_pos hq
    go_wp2_with fail
    go_ret
    exact RefPost.err HE9.out (HSD.out.bl.trans hf7)
   | ok k3 =>
    rintro y7 W7 ⟨rfl, vL3, vA3, vR3, vP3, hk3, hf7⟩
    have hs7 := HSD.out.far hf7 hk3
    have HS7 := hide hs7
    have HP3 := hide (HIK.out i k2 e k3 HP2.out HMEM.out hq)
    rw [hq] at HEQ
    have HEQ7 := hide HEQ.out
    clear hs7 hk3 hf7 hq HEQ HS HSD
    go_wp2_with fail
    go_roundg (en - (i + 1))
    case rel => exact ⟨i + 1, k3, vL3, vA3, vR3, vP3, by go_num, by omega, by omega, HP3.out, HEQ7.out, HS7.out⟩
    case measure => omega
  ·obtain rfl : en = i := by omega
   have hin : ¬ (en : Int) < (en : Int) := by omega
   have HEQ : Hid (eventsP ⟨0, rt, rsp, rsize, ⟨osp, onum, osize, oel, ofl, opr, oect⟩, delay, ra, rn, rc, marked, e0, e1, e2, ea, en, ec, err, smooth⟩ rs (k) es = .ok k2) := by
    show _ = _
    rw [heq, List.drop_of_length_le (by rw [HEN.out]; exact Nat.le_refl _)]
    rfl
   have HEE : Hid (res = .ok (pieceK k2 ⟨0, rt, rsp, rsize, ⟨osp, onum, osize, oel, ofl, opr, oect⟩, delay, ra, rn, rc, marked, e0, e1, e2, ea, en, ec, err, smooth⟩)) := by
    show _ = _
    rw [← HRES.out]
    unfold goesP
    simp only
    rw [HEQ.out]
   clear heq HEQ
   have HS := hide hs
   clear hs
   go_wp2_with fail
   go_ret
   exact RefPost.ok HEE.out HS.out.kn HS.out.bl
set_option maxRecDepth 100000 in
set_option maxHeartbeats 8000000 in
theorem rdoes_nine (b base : Nat) (k : KN) (vL vA vR vP : Value) (r : RW) (rs : List RGJ) (es : List EVJ) (w : World) (hK : KrAt w b base k vL vA vR vP) (hR : LieAt rgL 2 w base r.ra rs) (hE : LieAt evL 4 w base r.ea es) (hen : es.length = r.en) (henl : r.en ≤ 2000) (hkd : r.kind = 9) 
  (I : Nat → KN → Prop) (hI0 : I 0 (k)) (hIk : ∀ i k1 e k2, I i k1 → es[i]? = some e → eventP k1 r rs e = .ok k2 → I (i + 1) k2) (hIp : ∀ i k1, I i k1 → k1.pieces.length ≤ 1900)
  (hEv : ∀ i k1 vL vA vR vP e W, I i k1 → es[i]? = some e → KrAt W b base k1 vL vA vR vP → LieAt rgL 2 W base r.ra rs → Calls Try.prog 80 #[.pointer (some ⟨b, 0, none⟩), .agg (rwC r), .agg #[ZI ZQ e.kind, ZI ZQ e.sp, ZI ZQ e.num, ZI ZQ e.n]] W (RefPost b base W (eventP k1 r rs e))) :
  Calls Try.prog 66 #[.pointer (some ⟨b, 0, none⟩), .agg (rwC r)] w (RefPost b base w (goesP r rs es (.ok (k)))) := by
 obtain ⟨kind, rt, rsp, rsize, ⟨osp, onum, osize, oel, ofl, opr, oect⟩, delay, ra, rn, rc, marked, e0, e1, e2, ea, en, ec, err, smooth⟩ := r
 simp only at hR hE hen henl hkd hI0  ⊢
 subst hkd
 obtain ⟨res, hres⟩ : ∃ z9, goesP ⟨9, rt, rsp, rsize, ⟨osp, onum, osize, oel, ofl, opr, oect⟩, delay, ra, rn, rc, marked, e0, e1, e2, ea, en, ec, err, smooth⟩ rs es (.ok (k)) = z9 := ⟨_, rfl⟩
 rw [hres]
 have HRES := hide hres
 clear hres
 have hbb : base ≤ w.heap.size := Nat.le_of_lt (Nat.lt_of_le_of_lt hK.ge hK.blk.lt)
 have ha : Below w.heap.size w (w.alloc (.cells #[ZI ZQ 9, ZI ZQ rt, ZI ZQ rsp, ZI ZQ rsize, ZI ZQ osp, ZI ZQ onum, ZI ZQ osize, .bool oel, .bool ofl, .bool opr, .bool oect, ZI ZQ delay, .slice ra rn rc, .bool marked, ZI ZQ e0, ZI ZQ e1, ZI ZQ e2, .slice ea en ec, ZI ZQ err, ZI ZQ smooth] 93)) := (Below.refl _ _).alloc (Nat.le_refl _) _
 have hs0 : RdSt w (w.alloc (.cells #[ZI ZQ 9, ZI ZQ rt, ZI ZQ rsp, ZI ZQ rsize, ZI ZQ osp, ZI ZQ onum, ZI ZQ osize, .bool oel, .bool ofl, .bool opr, .bool oect, ZI ZQ delay, .slice ra rn rc, .bool marked, ZI ZQ e0, ZI ZQ e1, ZI ZQ e2, .slice ea en ec, ZI ZQ err, ZI ZQ smooth] 93)) b base k vL vA vR vP w.heap.size ⟨9, rt, rsp, rsize, ⟨osp, onum, osize, oel, ofl, opr, oect⟩, delay, ra, rn, rc, marked, e0, e1, e2, ea, en, ec, err, smooth⟩ es rs := ⟨hK.later ha, Blk.new _ _ _, hE, hR, FarR.of_below ha hbb⟩
 unfold rwC
 obtain ⟨W1, hW1⟩ : ∃ x, w.alloc (.cells #[ZI ZQ 9, ZI ZQ rt, ZI ZQ rsp, ZI ZQ rsize, ZI ZQ osp, ZI ZQ onum, ZI ZQ osize, .bool oel, .bool ofl, .bool opr, .bool oect, ZI ZQ delay, .slice ra rn rc, .bool marked, ZI ZQ e0, ZI ZQ e1, ZI ZQ e2, .slice ea en ec, ZI ZQ err, ZI ZQ smooth] 93) = x := ⟨_, rfl⟩
 obtain ⟨R, hRr⟩ : ∃ x, w.heap.size = x := ⟨_, rfl⟩
 go_enter Try.func66, Try.ntmps66
 go_upto_region 1 with (fail)
 rw [hW1, hRr] at hs0
 try rw [hW1]
 try rw [hRr]
 have HS := hide hs0
 have HE := hide hE
 have HIK := hide hIk
 have HIP := hide hIp
 have HEV := hide hEv
 have HI0 := hide hI0
 have HEN := hide hen
 have r0 := hs0.row.cell 0
 have r2 := hs0.row.cell 2
 have r17 := hs0.row.cell 17
 simp only [rwC, ZG, ZH, ZJ] at r0 r2 r17
 clear hs0 hW1 hRr ha hR hE hIk hIp hEv hI0 hK hen
 go_wp2_with fail
 go_loopg [7, 8] en (fun kx s7 s8 wr => ∃ i : Nat, ∃ k2 vL2 vA2 vR2 vP2, s7 = ZI ZQ i ∧ i ≤ en ∧ en - i ≤ kx ∧ I i k2 ∧ Hid (eventsP ⟨9, rt, rsp, rsize, ⟨osp, onum, osize, oel, ofl, opr, oect⟩, delay, ra, rn, rc, marked, e0, e1, e2, ea, en, ec, err, smooth⟩ rs (k) es = eventsP ⟨9, rt, rsp, rsize, ⟨osp, onum, osize, oel, ofl, opr, oect⟩, delay, ra, rn, rc, marked, e0, e1, e2, ea, en, ec, err, smooth⟩ rs k2 (es.drop i)) ∧ RdSt w wr b base k2 vL2 vA2 vR2 vP2 R ⟨9, rt, rsp, rsize, ⟨osp, onum, osize, oel, ofl, opr, oect⟩, delay, ra, rn, rc, marked, e0, e1, e2, ea, en, ec, err, smooth⟩ es rs)
 case atStart => exact ⟨0, _, _, _, _, _, rfl, by omega, by omega, HI0.out, rfl, HS.out⟩
 case round =>
  obtain ⟨i, k2, vL2, vA2, vR2, vP2, rfl, hi, hkx, hP2, heq, hs⟩ := hrel
  have HP2 := hide hP2
  have r0 := hs.row.cell 0
  have r17 := hs.row.cell 17
  simp only [rwC, ZG, ZH, ZJ] at r0 r17
  clear hP2 HS
  by_cases hlt : i < en
  ·have hir : i < es.length := by rw [HEN.out]; exact hlt
   obtain ⟨e, he⟩ : ∃ e, es[i]? = some e := ⟨_, List.getElem?_eq_getElem hir⟩
   have hmem := he
   have hd := ev_drop (r := ⟨9, rt, rsp, rsize, ⟨osp, onum, osize, oel, ofl, opr, oect⟩, delay, ra, rn, rc, marked, e0, e1, e2, ea, en, ec, err, smooth⟩) (rs := rs) (k := k2) he
   obtain ⟨g, o, rfl, hg, hz⟩ := hs.ev.at he
   have z0 := hz 0 _ (by omega) rfl
   have z1 := hz 1 _ (by omega) rfl
   have z2 := hz 2 _ (by omega) rfl
   have z3 := hz 3 _ (by omega) rfl
   simp only [Nat.add_zero] at z0
   have hin : (i : Int) < (en : Int) := by omega
   have HEQ : Hid (eventsP ⟨9, rt, rsp, rsize, ⟨osp, onum, osize, oel, ofl, opr, oect⟩, delay, ra, rn, rc, marked, e0, e1, e2, (some ⟨g, o, none⟩), en, ec, err, smooth⟩ rs (k) es = match eventP k2 ⟨9, rt, rsp, rsize, ⟨osp, onum, osize, oel, ofl, opr, oect⟩, delay, ra, rn, rc, marked, e0, e1, e2, (some ⟨g, o, none⟩), en, ec, err, smooth⟩ rs e with
     | .ok k3 => eventsP ⟨9, rt, rsp, rsize, ⟨osp, onum, osize, oel, ofl, opr, oect⟩, delay, ra, rn, rc, marked, e0, e1, e2, (some ⟨g, o, none⟩), en, ec, err, smooth⟩ rs k3 (es.drop (i + 1))
     | .error n => .error n) := by
    show _ = _
    rw [heq, hd]
    rfl
   have HS := hide hs
   have HMEM := hide hmem
   have y0 : wr.drew.cell? _ = _ := z0
   have y1 : wr.drew.cell? _ = _ := z1
   have y2 : wr.drew.cell? _ = _ := z2
   have y3 : wr.drew.cell? _ = _ := z3
   have y17 : wr.drew.cell? ⟨R, 17, none⟩ = _ := r17
   have HSD := hide hs.drew
   clear heq hd hir he hz hs hmem
   go_upto_region 23 with (fail)
   refine wp_region_still_tail 7 (by kernel_rfl) (by kernel_rfl) ?_
   simp only [List.take_succ_cons, List.take_zero, List.drop_succ_cons, List.drop_zero]
   change wpStill _ _ wr.drew _ _ _
   refine wpStill_step (fun K hK => ?_); go_simp; with_reducible refine hK _ ?_; clear hK K
   refine wpStill_load_row rfl 93 (.tmp 3) rfl R rfl 93 (rwC ⟨9, rt, rsp, rsize, ⟨osp, onum, osize, oel, ofl, opr, oect⟩, delay, ra, rn, rc, marked, e0, e1, e2, (some ⟨g, o, none⟩), en, ec, err, smooth⟩) (0, 0) _ HSD.out.row Try.underlying93 rfl rrow_size ?_
   try simp only [ZP, ZA, ZB, ZC, ZD, ZE, ZF]
   repeat (refine wpStill_step (fun K hK => ?_); go_simp; with_reducible refine hK _ ?_; clear hK K)
   refine wpStill_nil ?_
   change wpList _ _ _ _ _ wr.drew
   clear z0 z1 z2 z3 y0 y1 y2 y3 r0 r17 y17
   go_wp2_with fail
   with_reducible refine (HEV.out i k2 vL2 vA2 vR2 vP2 e _ HP2.out HMEM.out HSD.out.kn HSD.out.rg).mono ?_
   cases hq : eventP k2 ⟨9, rt, rsp, rsize, ⟨osp, onum, osize, oel, ofl, opr, oect⟩, delay, ra, rn, rc, marked, e0, e1, e2, (some ⟨g, o, none⟩), en, ec, err, smooth⟩ rs e with
   | error n =>
    rintro y7 W7 ⟨rfl, hf7⟩
    have HE9 : Hid (res = .error n) := by
     show _ = _
     rw [← HRES.out]
     unfold goesP
     simp only
     rw [HEQ.out, hq]
    have hn0 := event_pos hq
    go_wp2_with fail
    go_ret
    exact RefPost.err HE9.out (HSD.out.bl.trans hf7)
   | ok k3 =>
    rintro y7 W7 ⟨rfl, vL3, vA3, vR3, vP3, hk3, hf7⟩
    have hs7 := HSD.out.far hf7 hk3
    have HS7 := hide hs7
    have HP3 := hide (HIK.out i k2 e k3 HP2.out HMEM.out hq)
    rw [hq] at HEQ
    have HEQ7 := hide HEQ.out
    clear hs7 hk3 hf7 hq HEQ HS HSD
    go_wp2_with fail
    go_roundg (en - (i + 1))
    case rel => exact ⟨i + 1, k3, vL3, vA3, vR3, vP3, by go_num, by omega, by omega, HP3.out, HEQ7.out, HS7.out⟩
    case measure => omega
  ·obtain rfl : en = i := by omega
   have hin : ¬ (en : Int) < (en : Int) := by omega
   have HEQ : Hid (eventsP ⟨9, rt, rsp, rsize, ⟨osp, onum, osize, oel, ofl, opr, oect⟩, delay, ra, rn, rc, marked, e0, e1, e2, ea, en, ec, err, smooth⟩ rs (k) es = .ok k2) := by
    show _ = _
    rw [heq, List.drop_of_length_le (by rw [HEN.out]; exact Nat.le_refl _)]
    rfl
   have HEE : Hid (res = .ok (pieceK k2 ⟨9, rt, rsp, rsize, ⟨osp, onum, osize, oel, ofl, opr, oect⟩, delay, ra, rn, rc, marked, e0, e1, e2, ea, en, ec, err, smooth⟩)) := by
    show _ = _
    rw [← HRES.out]
    unfold goesP
    simp only
    rw [HEQ.out]
   clear heq HEQ
   have HS := hide hs
   clear hs
   go_wp2_with fail
   go_ret
   exact RefPost.ok HEE.out HS.out.kn HS.out.bl
set_option maxRecDepth 100000 in
set_option maxHeartbeats 8000000 in
theorem rdoes_discards (b base : Nat) (k : KN) (vL vA vR vP : Value) (r : RW) (rs : List RGJ) (es : List EVJ) (w : World) (hK : KrAt w b base k vL vA vR vP) (hR : LieAt rgL 2 w base r.ra rs) (hE : LieAt evL 4 w base r.ea es) (hen : es.length = r.en) (henl : r.en ≤ 2000) (hkd : r.kind = 6) (hsp : isSp r.sp = false)
  (I : Nat → KN → Prop) (hI0 : I 0 (k)) (hIk : ∀ i k1 e k2, I i k1 → es[i]? = some e → eventP k1 r rs e = .ok k2 → I (i + 1) k2) (hIp : ∀ i k1, I i k1 → k1.pieces.length ≤ 1900)
  (hEv : ∀ i k1 vL vA vR vP e W, I i k1 → es[i]? = some e → KrAt W b base k1 vL vA vR vP → LieAt rgL 2 W base r.ra rs → Calls Try.prog 80 #[.pointer (some ⟨b, 0, none⟩), .agg (rwC r), .agg #[ZI ZQ e.kind, ZI ZQ e.sp, ZI ZQ e.num, ZI ZQ e.n]] W (RefPost b base W (eventP k1 r rs e))) :
  Calls Try.prog 66 #[.pointer (some ⟨b, 0, none⟩), .agg (rwC r)] w (RefPost b base w (goesP r rs es (.ok (k)))) := by
 obtain ⟨kind, rt, rsp, rsize, ⟨osp, onum, osize, oel, ofl, opr, oect⟩, delay, ra, rn, rc, marked, e0, e1, e2, ea, en, ec, err, smooth⟩ := r
 simp only at hR hE hen henl hkd hI0 hsp ⊢
 subst hkd
 obtain ⟨res, hres⟩ : ∃ z9, goesP ⟨6, rt, rsp, rsize, ⟨osp, onum, osize, oel, ofl, opr, oect⟩, delay, ra, rn, rc, marked, e0, e1, e2, ea, en, ec, err, smooth⟩ rs es (.ok (k)) = z9 := ⟨_, rfl⟩
 rw [hres]
 have HRES := hide hres
 clear hres
 have hbb : base ≤ w.heap.size := Nat.le_of_lt (Nat.lt_of_le_of_lt hK.ge hK.blk.lt)
 have ha : Below w.heap.size w (w.alloc (.cells #[ZI ZQ 6, ZI ZQ rt, ZI ZQ rsp, ZI ZQ rsize, ZI ZQ osp, ZI ZQ onum, ZI ZQ osize, .bool oel, .bool ofl, .bool opr, .bool oect, ZI ZQ delay, .slice ra rn rc, .bool marked, ZI ZQ e0, ZI ZQ e1, ZI ZQ e2, .slice ea en ec, ZI ZQ err, ZI ZQ smooth] 93)) := (Below.refl _ _).alloc (Nat.le_refl _) _
 have hs0 : RdSt w (w.alloc (.cells #[ZI ZQ 6, ZI ZQ rt, ZI ZQ rsp, ZI ZQ rsize, ZI ZQ osp, ZI ZQ onum, ZI ZQ osize, .bool oel, .bool ofl, .bool opr, .bool oect, ZI ZQ delay, .slice ra rn rc, .bool marked, ZI ZQ e0, ZI ZQ e1, ZI ZQ e2, .slice ea en ec, ZI ZQ err, ZI ZQ smooth] 93)) b base k vL vA vR vP w.heap.size ⟨6, rt, rsp, rsize, ⟨osp, onum, osize, oel, ofl, opr, oect⟩, delay, ra, rn, rc, marked, e0, e1, e2, ea, en, ec, err, smooth⟩ es rs := ⟨hK.later ha, Blk.new _ _ _, hE, hR, FarR.of_below ha hbb⟩
 unfold rwC
 obtain ⟨W1, hW1⟩ : ∃ x, w.alloc (.cells #[ZI ZQ 6, ZI ZQ rt, ZI ZQ rsp, ZI ZQ rsize, ZI ZQ osp, ZI ZQ onum, ZI ZQ osize, .bool oel, .bool ofl, .bool opr, .bool oect, ZI ZQ delay, .slice ra rn rc, .bool marked, ZI ZQ e0, ZI ZQ e1, ZI ZQ e2, .slice ea en ec, ZI ZQ err, ZI ZQ smooth] 93) = x := ⟨_, rfl⟩
 obtain ⟨R, hRr⟩ : ∃ x, w.heap.size = x := ⟨_, rfl⟩
 go_enter Try.func66, Try.ntmps66
 go_upto_region 1 with (fail)
 rw [hW1, hRr] at hs0
 try rw [hW1]
 try rw [hRr]
 have HS := hide hs0
 have HE := hide hE
 have HIK := hide hIk
 have HIP := hide hIp
 have HEV := hide hEv
 have HI0 := hide hI0
 have HEN := hide hen
 have r0 := hs0.row.cell 0
 have r2 := hs0.row.cell 2
 have r17 := hs0.row.cell 17
 simp only [rwC, ZG, ZH, ZJ] at r0 r2 r17
 clear hs0 hW1 hRr ha hR hE hIk hIp hEv hI0 hK hen
 have HSP := hide (fun W => rspace_any rsp W)
 rw [hsp] at HSP
 clear hsp
 go_wp2_with fail
 with_reducible refine (HSP.out _).mono ?_
 rintro y3 u3 ⟨rfl, rfl⟩
 clear HSP
 go_wp2_with fail
 go_loopg [7, 8] en (fun kx s7 s8 wr => ∃ i : Nat, ∃ k2 vL2 vA2 vR2 vP2, s7 = ZI ZQ i ∧ i ≤ en ∧ en - i ≤ kx ∧ I i k2 ∧ Hid (eventsP ⟨6, rt, rsp, rsize, ⟨osp, onum, osize, oel, ofl, opr, oect⟩, delay, ra, rn, rc, marked, e0, e1, e2, ea, en, ec, err, smooth⟩ rs (k) es = eventsP ⟨6, rt, rsp, rsize, ⟨osp, onum, osize, oel, ofl, opr, oect⟩, delay, ra, rn, rc, marked, e0, e1, e2, ea, en, ec, err, smooth⟩ rs k2 (es.drop i)) ∧ RdSt w wr b base k2 vL2 vA2 vR2 vP2 R ⟨6, rt, rsp, rsize, ⟨osp, onum, osize, oel, ofl, opr, oect⟩, delay, ra, rn, rc, marked, e0, e1, e2, ea, en, ec, err, smooth⟩ es rs)
 case atStart => exact ⟨0, _, _, _, _, _, rfl, by omega, by omega, HI0.out, rfl, HS.out⟩
 case round =>
  obtain ⟨i, k2, vL2, vA2, vR2, vP2, rfl, hi, hkx, hP2, heq, hs⟩ := hrel
  have HP2 := hide hP2
  have r0 := hs.row.cell 0
  have r17 := hs.row.cell 17
  simp only [rwC, ZG, ZH, ZJ] at r0 r17
  clear hP2 HS
  by_cases hlt : i < en
  ·have hir : i < es.length := by rw [HEN.out]; exact hlt
   obtain ⟨e, he⟩ : ∃ e, es[i]? = some e := ⟨_, List.getElem?_eq_getElem hir⟩
   have hmem := he
   have hd := ev_drop (r := ⟨6, rt, rsp, rsize, ⟨osp, onum, osize, oel, ofl, opr, oect⟩, delay, ra, rn, rc, marked, e0, e1, e2, ea, en, ec, err, smooth⟩) (rs := rs) (k := k2) he
   obtain ⟨g, o, rfl, hg, hz⟩ := hs.ev.at he
   have z0 := hz 0 _ (by omega) rfl
   have z1 := hz 1 _ (by omega) rfl
   have z2 := hz 2 _ (by omega) rfl
   have z3 := hz 3 _ (by omega) rfl
   simp only [Nat.add_zero] at z0
   have hin : (i : Int) < (en : Int) := by omega
   have HEQ : Hid (eventsP ⟨6, rt, rsp, rsize, ⟨osp, onum, osize, oel, ofl, opr, oect⟩, delay, ra, rn, rc, marked, e0, e1, e2, (some ⟨g, o, none⟩), en, ec, err, smooth⟩ rs (k) es = match eventP k2 ⟨6, rt, rsp, rsize, ⟨osp, onum, osize, oel, ofl, opr, oect⟩, delay, ra, rn, rc, marked, e0, e1, e2, (some ⟨g, o, none⟩), en, ec, err, smooth⟩ rs e with
     | .ok k3 => eventsP ⟨6, rt, rsp, rsize, ⟨osp, onum, osize, oel, ofl, opr, oect⟩, delay, ra, rn, rc, marked, e0, e1, e2, (some ⟨g, o, none⟩), en, ec, err, smooth⟩ rs k3 (es.drop (i + 1))
     | .error n => .error n) := by
    show _ = _
    rw [heq, hd]
    rfl
   have HS := hide hs
   have HMEM := hide hmem
   have y0 : wr.drew.cell? _ = _ := z0
   have y1 : wr.drew.cell? _ = _ := z1
   have y2 : wr.drew.cell? _ = _ := z2
   have y3 : wr.drew.cell? _ = _ := z3
   have y17 : wr.drew.cell? ⟨R, 17, none⟩ = _ := r17
   have HSD := hide hs.drew
   clear heq hd hir he hz hs hmem
   go_upto_region 23 with (fail)
   refine wp_region_still_tail 7 (by kernel_rfl) (by kernel_rfl) ?_
   simp only [List.take_succ_cons, List.take_zero, List.drop_succ_cons, List.drop_zero]
   change wpStill _ _ wr.drew _ _ _
   refine wpStill_step (fun K hK => ?_); go_simp; with_reducible refine hK _ ?_; clear hK K
   refine wpStill_load_row rfl 93 (.tmp 3) rfl R rfl 93 (rwC ⟨6, rt, rsp, rsize, ⟨osp, onum, osize, oel, ofl, opr, oect⟩, delay, ra, rn, rc, marked, e0, e1, e2, (some ⟨g, o, none⟩), en, ec, err, smooth⟩) (0, 0) _ HSD.out.row Try.underlying93 rfl rrow_size ?_
   try simp only [ZP, ZA, ZB, ZC, ZD, ZE, ZF]
   repeat (refine wpStill_step (fun K hK => ?_); go_simp; with_reducible refine hK _ ?_; clear hK K)
   refine wpStill_nil ?_
   change wpList _ _ _ _ _ wr.drew
   clear z0 z1 z2 z3 y0 y1 y2 y3 r0 r17 y17
   go_wp2_with fail
   with_reducible refine (HEV.out i k2 vL2 vA2 vR2 vP2 e _ HP2.out HMEM.out HSD.out.kn HSD.out.rg).mono ?_
   cases hq : eventP k2 ⟨6, rt, rsp, rsize, ⟨osp, onum, osize, oel, ofl, opr, oect⟩, delay, ra, rn, rc, marked, e0, e1, e2, (some ⟨g, o, none⟩), en, ec, err, smooth⟩ rs e with
   | error n =>
    rintro y7 W7 ⟨rfl, hf7⟩
    have HE9 : Hid (res = .error n) := by
     show _ = _
     rw [← HRES.out]
     unfold goesP
     simp only
     rw [HEQ.out, hq]
    have hn0 := event_pos hq
    go_wp2_with fail
    go_ret
    exact RefPost.err HE9.out (HSD.out.bl.trans hf7)
   | ok k3 =>
    rintro y7 W7 ⟨rfl, vL3, vA3, vR3, vP3, hk3, hf7⟩
    have hs7 := HSD.out.far hf7 hk3
    have HS7 := hide hs7
    have HP3 := hide (HIK.out i k2 e k3 HP2.out HMEM.out hq)
    rw [hq] at HEQ
    have HEQ7 := hide HEQ.out
    clear hs7 hk3 hf7 hq HEQ HS HSD
    go_wp2_with fail
    go_roundg (en - (i + 1))
    case rel => exact ⟨i + 1, k3, vL3, vA3, vR3, vP3, by go_num, by omega, by omega, HP3.out, HEQ7.out, HS7.out⟩
    case measure => omega
  ·obtain rfl : en = i := by omega
   have hin : ¬ (en : Int) < (en : Int) := by omega
   have HEQ : Hid (eventsP ⟨6, rt, rsp, rsize, ⟨osp, onum, osize, oel, ofl, opr, oect⟩, delay, ra, rn, rc, marked, e0, e1, e2, ea, en, ec, err, smooth⟩ rs (k) es = .ok k2) := by
    show _ = _
    rw [heq, List.drop_of_length_le (by rw [HEN.out]; exact Nat.le_refl _)]
    rfl
   have HEE : Hid (res = .ok (pieceK k2 ⟨6, rt, rsp, rsize, ⟨osp, onum, osize, oel, ofl, opr, oect⟩, delay, ra, rn, rc, marked, e0, e1, e2, ea, en, ec, err, smooth⟩)) := by
    show _ = _
    rw [← HRES.out]
    unfold goesP
    simp only
    rw [HEQ.out]
   clear heq HEQ
   have HS := hide hs
   clear hs
   go_wp2_with fail
   go_ret
   exact RefPost.ok HEE.out HS.out.kn HS.out.bl
end Go.Proofs.Ytidfngcclbhoaaa

namespace Go.Proofs.Ytidfngcclbhoaaa
open List renaming getElem_toArray → ZA, getElem_cons_zero → ZB, getElem_cons_succ → ZC, setIfInBounds_toArray → ZD, set_cons_zero → ZE, set_cons_succ → ZF, getElem?_toArray → ZG, getElem?_cons_zero → ZH, getElem?_cons_succ → ZJ
open Go.Act renaming put → ZP
open Go.Value renaming int → ZI
open Go.IntKind renaming i64 → ZQ
set_option linter.unusedSimpArgs false
set_option linter.unusedVariables false
open Go.RowKit Go.Shelf
set_option maxRecDepth 100000 in
set_option maxHeartbeats 8000000 in
theorem rdoes_gets (b base : Nat) (k : KN) (vL vA vR vP : Value) (r : RW) (rs : List RGJ) (es : List EVJ) (w : World) (hK : KrAt w b base k vL vA vR vP) (hR : LieAt rgL 2 w base r.ra rs) (hE : LieAt evL 4 w base r.ea es) (hen : es.length = r.en) (henl : r.en ≤ 2000) (hkd : r.kind = 3) 
  (I : Nat → KN → Prop) (hI0 : I 0 ({ k with got := addI k.got r.size })) (hIk : ∀ i k1 e k2, I i k1 → es[i]? = some e → eventP k1 r rs e = .ok k2 → I (i + 1) k2) (hIp : ∀ i k1, I i k1 → k1.pieces.length ≤ 1900)
  (hEv : ∀ i k1 vL vA vR vP e W, I i k1 → es[i]? = some e → KrAt W b base k1 vL vA vR vP → LieAt rgL 2 W base r.ra rs → Calls Try.prog 80 #[.pointer (some ⟨b, 0, none⟩), .agg (rwC r), .agg #[ZI ZQ e.kind, ZI ZQ e.sp, ZI ZQ e.num, ZI ZQ e.n]] W (RefPost b base W (eventP k1 r rs e))) :
  Calls Try.prog 66 #[.pointer (some ⟨b, 0, none⟩), .agg (rwC r)] w (RefPost b base w (goesP r rs es (.ok ({ k with got := addI k.got r.size })))) := by
 obtain ⟨kind, rt, rsp, rsize, ⟨osp, onum, osize, oel, ofl, opr, oect⟩, delay, ra, rn, rc, marked, e0, e1, e2, ea, en, ec, err, smooth⟩ := r
 simp only at hR hE hen henl hkd hI0  ⊢
 subst hkd
 obtain ⟨res, hres⟩ : ∃ z9, goesP ⟨3, rt, rsp, rsize, ⟨osp, onum, osize, oel, ofl, opr, oect⟩, delay, ra, rn, rc, marked, e0, e1, e2, ea, en, ec, err, smooth⟩ rs es (.ok ({ k with got := addI k.got rsize })) = z9 := ⟨_, rfl⟩
 rw [hres]
 have HRES := hide hres
 clear hres
 have hbb : base ≤ w.heap.size := Nat.le_of_lt (Nat.lt_of_le_of_lt hK.ge hK.blk.lt)
 have ha : Below w.heap.size w (w.alloc (.cells #[ZI ZQ 3, ZI ZQ rt, ZI ZQ rsp, ZI ZQ rsize, ZI ZQ osp, ZI ZQ onum, ZI ZQ osize, .bool oel, .bool ofl, .bool opr, .bool oect, ZI ZQ delay, .slice ra rn rc, .bool marked, ZI ZQ e0, ZI ZQ e1, ZI ZQ e2, .slice ea en ec, ZI ZQ err, ZI ZQ smooth] 93)) := (Below.refl _ _).alloc (Nat.le_refl _) _
 have hs0 : RdSt w (w.alloc (.cells #[ZI ZQ 3, ZI ZQ rt, ZI ZQ rsp, ZI ZQ rsize, ZI ZQ osp, ZI ZQ onum, ZI ZQ osize, .bool oel, .bool ofl, .bool opr, .bool oect, ZI ZQ delay, .slice ra rn rc, .bool marked, ZI ZQ e0, ZI ZQ e1, ZI ZQ e2, .slice ea en ec, ZI ZQ err, ZI ZQ smooth] 93)) b base k vL vA vR vP w.heap.size ⟨3, rt, rsp, rsize, ⟨osp, onum, osize, oel, ofl, opr, oect⟩, delay, ra, rn, rc, marked, e0, e1, e2, ea, en, ec, err, smooth⟩ es rs := ⟨hK.later ha, Blk.new _ _ _, hE, hR, FarR.of_below ha hbb⟩
 unfold rwC
 obtain ⟨W1, hW1⟩ : ∃ x, w.alloc (.cells #[ZI ZQ 3, ZI ZQ rt, ZI ZQ rsp, ZI ZQ rsize, ZI ZQ osp, ZI ZQ onum, ZI ZQ osize, .bool oel, .bool ofl, .bool opr, .bool oect, ZI ZQ delay, .slice ra rn rc, .bool marked, ZI ZQ e0, ZI ZQ e1, ZI ZQ e2, .slice ea en ec, ZI ZQ err, ZI ZQ smooth] 93) = x := ⟨_, rfl⟩
 obtain ⟨R, hRr⟩ : ∃ x, w.heap.size = x := ⟨_, rfl⟩
 go_enter Try.func66, Try.ntmps66
 go_upto_region 1 with (fail)
 rw [hW1, hRr] at hs0
 try rw [hW1]
 try rw [hRr]
 have HS := hide hs0
 have HE := hide hE
 have HIK := hide hIk
 have HIP := hide hIp
 have HEV := hide hEv
 have HI0 := hide hI0
 have HEN := hide hen
 have r0 := hs0.row.cell 0
 have r2 := hs0.row.cell 2
 have r17 := hs0.row.cell 17
 simp only [rwC, ZG, ZH, ZJ] at r0 r2 r17
 clear hs0 hW1 hRr ha hR hE hIk hIp hEv hI0 hK hen
 have kb := HS.out.drew.kn.blk.cell 12
 have kf := HS.out.drew.kn.blk.frozen 12
 have r3 := HS.out.drew.row.cell 3
 simp only [rwC, krC, ZG, ZH, ZJ] at kb r3
 have HAD := hide (fun W => still_add (radd_any k.got rsize W))
 go_upto_region 13 with (fail)
 refine wp_region_still_tail 10 (by kernel_rfl) (by kernel_rfl) ?_
 simp only [List.take_succ_cons, List.take_zero, List.drop_succ_cons, List.drop_zero]
 change wpStill _ _ W1.drew _ _ _
 repeat (refine wpStill_step (fun K hK => ?_); go_simp; (first | (with_reducible refine hK _ ?_) | with_reducible refine ⟨_, HAD.out _, hK _ ?_⟩); clear hK K)
 refine wpStill_nil ?_
 change wpList _ _ _ _ _ W1.drew
 go_upto_region 20 with (fail)
 have hs := (HS.out.put 12 (ZI ZQ (addI k.got rsize)) { k with got := addI k.got rsize } rfl rfl rfl rfl).drew
 obtain ⟨W2, hW2⟩ : ∃ x, (W1.setCell ⟨b, 12, none⟩ (ZI ZQ (addI k.got rsize))).drew = x := ⟨_, rfl⟩
 rw [hW2] at hs
 rw [hW2]
 clear hW2 HS kb kf r3 HAD r0 r2 r17
 have HS := hide hs
 clear hs
 go_wp2_with fail
 go_loopg [7, 8] en (fun kx s7 s8 wr => ∃ i : Nat, ∃ k2 vL2 vA2 vR2 vP2, s7 = ZI ZQ i ∧ i ≤ en ∧ en - i ≤ kx ∧ I i k2 ∧ Hid (eventsP ⟨3, rt, rsp, rsize, ⟨osp, onum, osize, oel, ofl, opr, oect⟩, delay, ra, rn, rc, marked, e0, e1, e2, ea, en, ec, err, smooth⟩ rs ({ k with got := addI k.got rsize }) es = eventsP ⟨3, rt, rsp, rsize, ⟨osp, onum, osize, oel, ofl, opr, oect⟩, delay, ra, rn, rc, marked, e0, e1, e2, ea, en, ec, err, smooth⟩ rs k2 (es.drop i)) ∧ RdSt w wr b base k2 vL2 vA2 vR2 vP2 R ⟨3, rt, rsp, rsize, ⟨osp, onum, osize, oel, ofl, opr, oect⟩, delay, ra, rn, rc, marked, e0, e1, e2, ea, en, ec, err, smooth⟩ es rs)
 case atStart => exact ⟨0, _, _, _, _, _, rfl, by omega, by omega, HI0.out, rfl, HS.out⟩
 case round =>
  obtain ⟨i, k2, vL2, vA2, vR2, vP2, rfl, hi, hkx, hP2, heq, hs⟩ := hrel
  have HP2 := hide hP2
  have r0 := hs.row.cell 0
  have r17 := hs.row.cell 17
  simp only [rwC, ZG, ZH, ZJ] at r0 r17
  clear hP2 HS
  by_cases hlt : i < en
  ·have hir : i < es.length := by rw [HEN.out]; exact hlt
   obtain ⟨e, he⟩ : ∃ e, es[i]? = some e := ⟨_, List.getElem?_eq_getElem hir⟩
   have hmem := he
   have hd := ev_drop (r := ⟨3, rt, rsp, rsize, ⟨osp, onum, osize, oel, ofl, opr, oect⟩, delay, ra, rn, rc, marked, e0, e1, e2, ea, en, ec, err, smooth⟩) (rs := rs) (k := k2) he
   obtain ⟨g, o, rfl, hg, hz⟩ := hs.ev.at he
   have z0 := hz 0 _ (by omega) rfl
   have z1 := hz 1 _ (by omega) rfl
   have z2 := hz 2 _ (by omega) rfl
   have z3 := hz 3 _ (by omega) rfl
   simp only [Nat.add_zero] at z0
   have hin : (i : Int) < (en : Int) := by omega
   have HEQ : Hid (eventsP ⟨3, rt, rsp, rsize, ⟨osp, onum, osize, oel, ofl, opr, oect⟩, delay, ra, rn, rc, marked, e0, e1, e2, (some ⟨g, o, none⟩), en, ec, err, smooth⟩ rs ({ k with got := addI k.got rsize }) es = match eventP k2 ⟨3, rt, rsp, rsize, ⟨osp, onum, osize, oel, ofl, opr, oect⟩, delay, ra, rn, rc, marked, e0, e1, e2, (some ⟨g, o, none⟩), en, ec, err, smooth⟩ rs e with
     | .ok k3 => eventsP ⟨3, rt, rsp, rsize, ⟨osp, onum, osize, oel, ofl, opr, oect⟩, delay, ra, rn, rc, marked, e0, e1, e2, (some ⟨g, o, none⟩), en, ec, err, smooth⟩ rs k3 (es.drop (i + 1))
     | .error n => .error n) := by
    show _ = _
    rw [heq, hd]
    rfl
   have HS := hide hs
   have HMEM := hide hmem
   have y0 : wr.drew.cell? _ = _ := z0
   have y1 : wr.drew.cell? _ = _ := z1
   have y2 : wr.drew.cell? _ = _ := z2
   have y3 : wr.drew.cell? _ = _ := z3
   have y17 : wr.drew.cell? ⟨R, 17, none⟩ = _ := r17
   have HSD := hide hs.drew
   clear heq hd hir he hz hs hmem
   go_upto_region 23 with (fail)
   refine wp_region_still_tail 7 (by kernel_rfl) (by kernel_rfl) ?_
   simp only [List.take_succ_cons, List.take_zero, List.drop_succ_cons, List.drop_zero]
   change wpStill _ _ wr.drew _ _ _
   refine wpStill_step (fun K hK => ?_); go_simp; with_reducible refine hK _ ?_; clear hK K
   refine wpStill_load_row rfl 93 (.tmp 3) rfl R rfl 93 (rwC ⟨3, rt, rsp, rsize, ⟨osp, onum, osize, oel, ofl, opr, oect⟩, delay, ra, rn, rc, marked, e0, e1, e2, (some ⟨g, o, none⟩), en, ec, err, smooth⟩) (0, 0) _ HSD.out.row Try.underlying93 rfl rrow_size ?_
   try simp only [ZP, ZA, ZB, ZC, ZD, ZE, ZF]
   repeat (refine wpStill_step (fun K hK => ?_); go_simp; with_reducible refine hK _ ?_; clear hK K)
   refine wpStill_nil ?_
   change wpList _ _ _ _ _ wr.drew
   clear z0 z1 z2 z3 y0 y1 y2 y3 r0 r17 y17
   go_wp2_with fail
   with_reducible refine (HEV.out i k2 vL2 vA2 vR2 vP2 e _ HP2.out HMEM.out HSD.out.kn HSD.out.rg).mono ?_
   cases hq : eventP k2 ⟨3, rt, rsp, rsize, ⟨osp, onum, osize, oel, ofl, opr, oect⟩, delay, ra, rn, rc, marked, e0, e1, e2, (some ⟨g, o, none⟩), en, ec, err, smooth⟩ rs e with
   | error n =>
    rintro y7 W7 ⟨rfl, hf7⟩
    have HE9 : Hid (res = .error n) := by
     show _ = _
     rw [← HRES.out]
     unfold goesP
     simp only
     rw [HEQ.out, hq]
    have hn0 := event_pos hq
    go_wp2_with fail
    go_ret
    exact RefPost.err HE9.out (HSD.out.bl.trans hf7)
   | ok k3 =>
    rintro y7 W7 ⟨rfl, vL3, vA3, vR3, vP3, hk3, hf7⟩
    have hs7 := HSD.out.far hf7 hk3
    have HS7 := hide hs7
    have HP3 := hide (HIK.out i k2 e k3 HP2.out HMEM.out hq)
    rw [hq] at HEQ
    have HEQ7 := hide HEQ.out
    clear hs7 hk3 hf7 hq HEQ HS HSD
    go_wp2_with fail
    go_roundg (en - (i + 1))
    case rel => exact ⟨i + 1, k3, vL3, vA3, vR3, vP3, by go_num, by omega, by omega, HP3.out, HEQ7.out, HS7.out⟩
    case measure => omega
  ·obtain rfl : en = i := by omega
   have hin : ¬ (en : Int) < (en : Int) := by omega
   have HEQ : Hid (eventsP ⟨3, rt, rsp, rsize, ⟨osp, onum, osize, oel, ofl, opr, oect⟩, delay, ra, rn, rc, marked, e0, e1, e2, ea, en, ec, err, smooth⟩ rs ({ k with got := addI k.got rsize }) es = .ok k2) := by
    show _ = _
    rw [heq, List.drop_of_length_le (by rw [HEN.out]; exact Nat.le_refl _)]
    rfl
   have HEE : Hid (res = .ok (pieceK k2 ⟨3, rt, rsp, rsize, ⟨osp, onum, osize, oel, ofl, opr, oect⟩, delay, ra, rn, rc, marked, e0, e1, e2, ea, en, ec, err, smooth⟩)) := by
    show _ = _
    rw [← HRES.out]
    unfold goesP
    simp only
    rw [HEQ.out]
   clear heq HEQ
   have HS := hide hs
   clear hs
   go_wp2_with fail
   go_ret
   exact RefPost.ok HEE.out HS.out.kn HS.out.bl
end Go.Proofs.Ytidfngcclbhoaaa

namespace Go.Proofs.Ytidfngcclbhoaaa
open List renaming getElem_toArray → ZA, getElem_cons_zero → ZB, getElem_cons_succ → ZC, setIfInBounds_toArray → ZD, set_cons_zero → ZE, set_cons_succ → ZF, getElem?_toArray → ZG, getElem?_cons_zero → ZH, getElem?_cons_succ → ZJ
open Go.Act renaming put → ZP
open Go.Value renaming int → ZI
open Go.IntKind renaming i64 → ZQ
set_option linter.unusedSimpArgs false
set_option linter.unusedVariables false
open Go.RowKit Go.Shelf
set_option maxRecDepth 100000 in
set_option maxHeartbeats 8000000 in
theorem rdoes_refuse (b base : Nat) (k : KN) (vL vA vR vP : Value) (r : RW) (w : World) (hK : KrAt w b base k vL vA vR vP) (hkd : r.kind = 1) (n : Int) (hn : 0 < n) (hS : ∀ W, KrAt W b base k vL vA vR vP → Calls Try.prog 75 #[.pointer (some ⟨b, 0, none⟩), .agg (rwC r)] W fun e w' => e = .returned (ZI ZQ n) ∧ Below W.heap.size W w') :
  Calls Try.prog 66 #[.pointer (some ⟨b, 0, none⟩), .agg (rwC r)] w (RefPost b base w (.error n)) := by
 obtain ⟨kind, rt, rsp, rsize, ⟨osp, onum, osize, oel, ofl, opr, oect⟩, delay, ra, rn, rc, marked, e0, e1, e2, ea, en, ec, err, smooth⟩ := r
 simp only at hkd 
 subst hkd 
 have HSN := hide hS
 
 clear hS 
 have hbb : base ≤ w.heap.size := Nat.le_of_lt (Nat.lt_of_le_of_lt hK.ge hK.blk.lt)
 have ha : Below w.heap.size w (w.alloc (.cells #[ZI ZQ 1, ZI ZQ rt, ZI ZQ rsp, ZI ZQ rsize, ZI ZQ osp, ZI ZQ onum, ZI ZQ osize, .bool oel, .bool ofl, .bool opr, .bool oect, ZI ZQ delay, .slice ra rn rc, .bool marked, ZI ZQ e0, ZI ZQ e1, ZI ZQ e2, .slice ea en ec, ZI ZQ err, ZI ZQ smooth] 93)) := (Below.refl _ _).alloc (Nat.le_refl _) _
 have hs0 : RdSt w (w.alloc (.cells #[ZI ZQ 1, ZI ZQ rt, ZI ZQ rsp, ZI ZQ rsize, ZI ZQ osp, ZI ZQ onum, ZI ZQ osize, .bool oel, .bool ofl, .bool opr, .bool oect, ZI ZQ delay, .slice ra rn rc, .bool marked, ZI ZQ e0, ZI ZQ e1, ZI ZQ e2, .slice ea en ec, ZI ZQ err, ZI ZQ smooth] 93)) b base k vL vA vR vP w.heap.size ⟨1, rt, rsp, rsize, ⟨osp, onum, osize, oel, ofl, opr, oect⟩, delay, ra, rn, rc, marked, e0, e1, e2, ea, en, ec, err, smooth⟩ [] [] := ⟨hK.later ha, Blk.new _ _ _, .inl rfl, .inl rfl, FarR.of_below ha hbb⟩
 unfold rwC
 obtain ⟨W1, hW1⟩ : ∃ x, w.alloc (.cells #[ZI ZQ 1, ZI ZQ rt, ZI ZQ rsp, ZI ZQ rsize, ZI ZQ osp, ZI ZQ onum, ZI ZQ osize, .bool oel, .bool ofl, .bool opr, .bool oect, ZI ZQ delay, .slice ra rn rc, .bool marked, ZI ZQ e0, ZI ZQ e1, ZI ZQ e2, .slice ea en ec, ZI ZQ err, ZI ZQ smooth] 93) = x := ⟨_, rfl⟩
 obtain ⟨R, hRr⟩ : ∃ x, w.heap.size = x := ⟨_, rfl⟩
 go_enter Try.func66, Try.ntmps66
 go_upto_region 1 with (fail)
 rw [hW1, hRr] at hs0
 try rw [hW1]
 try rw [hRr]
 have HS := hide hs0
 have r0 := hs0.row.cell 0
 simp only [rwC, ZG, ZH, ZJ] at r0
 clear hs0 hW1 hRr ha hK
 go_wp2_with (refine wpList_load_row rfl 93 (.tmp 3) rfl R rfl 93 (rwC ⟨1, rt, rsp, rsize, ⟨osp, onum, osize, oel, ofl, opr, oect⟩, delay, ra, rn, rc, marked, e0, e1, e2, ea, en, ec, err, smooth⟩) (0, 0) _ HS.out.row Try.underlying93 rfl rrow_size ?_)
 with_reducible refine (HSN.out _ HS.out.kn).mono ?_
 rintro y1 W2 ⟨rfl, hb2⟩
 have hs2 := HS.out.later hb2
 have HS2 := hide hs2
 clear hb2 hs2 HS r0
 go_wp2_with fail
 go_ret
 exact RefPost.err rfl HS2.out.bl
set_option maxRecDepth 100000 in
set_option maxHeartbeats 8000000 in
theorem rdoes_sent (b base : Nat) (k : KN) (vL vA vR vP : Value) (r : RW) (w : World) (hK : KrAt w b base k vL vA vR vP) (hkd : r.kind = 1) (k' : KN) (hes : r.en = 0) (hS : ∀ W, KrAt W b base k vL vA vR vP → Calls Try.prog 75 #[.pointer (some ⟨b, 0, none⟩), .agg (rwC r)] W fun e w' => e = .returned (ZI ZQ 0) ∧ Below W.heap.size W w') (hT : ∀ W, KrAt W b base k vL vA vR vP → Calls Try.prog 76 #[.pointer (some ⟨b, 0, none⟩), .agg (rwC r)] W fun e w' => e = .returned (.tuple #[]) ∧ ∃ vL' vA' vP', KrAt w' b base k' vL' vA' vR vP' ∧ FarR base W w') :
  Calls Try.prog 66 #[.pointer (some ⟨b, 0, none⟩), .agg (rwC r)] w (RefPost b base w (.ok k')) := by
 obtain ⟨kind, rt, rsp, rsize, ⟨osp, onum, osize, oel, ofl, opr, oect⟩, delay, ra, rn, rc, marked, e0, e1, e2, ea, en, ec, err, smooth⟩ := r
 simp only at hkd hes
 subst hkd hes
 have HSN := hide hS
 have HST := hide hT
 clear hS hT
 have hbb : base ≤ w.heap.size := Nat.le_of_lt (Nat.lt_of_le_of_lt hK.ge hK.blk.lt)
 have ha : Below w.heap.size w (w.alloc (.cells #[ZI ZQ 1, ZI ZQ rt, ZI ZQ rsp, ZI ZQ rsize, ZI ZQ osp, ZI ZQ onum, ZI ZQ osize, .bool oel, .bool ofl, .bool opr, .bool oect, ZI ZQ delay, .slice ra rn rc, .bool marked, ZI ZQ e0, ZI ZQ e1, ZI ZQ e2, .slice ea 0 ec, ZI ZQ err, ZI ZQ smooth] 93)) := (Below.refl _ _).alloc (Nat.le_refl _) _
 have hs0 : RdSt w (w.alloc (.cells #[ZI ZQ 1, ZI ZQ rt, ZI ZQ rsp, ZI ZQ rsize, ZI ZQ osp, ZI ZQ onum, ZI ZQ osize, .bool oel, .bool ofl, .bool opr, .bool oect, ZI ZQ delay, .slice ra rn rc, .bool marked, ZI ZQ e0, ZI ZQ e1, ZI ZQ e2, .slice ea 0 ec, ZI ZQ err, ZI ZQ smooth] 93)) b base k vL vA vR vP w.heap.size ⟨1, rt, rsp, rsize, ⟨osp, onum, osize, oel, ofl, opr, oect⟩, delay, ra, rn, rc, marked, e0, e1, e2, ea, 0, ec, err, smooth⟩ [] [] := ⟨hK.later ha, Blk.new _ _ _, .inl rfl, .inl rfl, FarR.of_below ha hbb⟩
 unfold rwC
 obtain ⟨W1, hW1⟩ : ∃ x, w.alloc (.cells #[ZI ZQ 1, ZI ZQ rt, ZI ZQ rsp, ZI ZQ rsize, ZI ZQ osp, ZI ZQ onum, ZI ZQ osize, .bool oel, .bool ofl, .bool opr, .bool oect, ZI ZQ delay, .slice ra rn rc, .bool marked, ZI ZQ e0, ZI ZQ e1, ZI ZQ e2, .slice ea 0 ec, ZI ZQ err, ZI ZQ smooth] 93) = x := ⟨_, rfl⟩
 obtain ⟨R, hRr⟩ : ∃ x, w.heap.size = x := ⟨_, rfl⟩
 go_enter Try.func66, Try.ntmps66
 go_upto_region 1 with (fail)
 rw [hW1, hRr] at hs0
 try rw [hW1]
 try rw [hRr]
 have HS := hide hs0
 have r0 := hs0.row.cell 0
 simp only [rwC, ZG, ZH, ZJ] at r0
 clear hs0 hW1 hRr ha hK
 go_wp2_with (refine wpList_load_row rfl 93 (.tmp 3) rfl R rfl 93 (rwC ⟨1, rt, rsp, rsize, ⟨osp, onum, osize, oel, ofl, opr, oect⟩, delay, ra, rn, rc, marked, e0, e1, e2, ea, 0, ec, err, smooth⟩) (0, 0) _ HS.out.row Try.underlying93 rfl rrow_size ?_)
 with_reducible refine (HSN.out _ HS.out.kn).mono ?_
 rintro y1 W2 ⟨rfl, hb2⟩
 have hs2 := HS.out.later hb2
 have HS2 := hide hs2
 clear hb2 hs2 HS r0
 go_wp2_with (refine wpList_load_row rfl 93 (.tmp 3) rfl R rfl 93 (rwC ⟨1, rt, rsp, rsize, ⟨osp, onum, osize, oel, ofl, opr, oect⟩, delay, ra, rn, rc, marked, e0, e1, e2, ea, 0, ec, err, smooth⟩) (0, 0) _ HS2.out.row Try.underlying93 rfl rrow_size ?_)
 with_reducible refine (HST.out _ HS2.out.kn).mono ?_
 rintro y3 W3 ⟨rfl, vL', vA', vP', hk3, hf3⟩
 have hs3 := HS2.out.far hf3 hk3
 have HS3 := hide hs3
 have r0 := hs3.row.cell 0
 have r17 := hs3.row.cell 17
 simp only [rwC, ZG, ZH, ZJ] at r0 r17
 clear hk3 hf3 hs3 HS2 HSN HST
 go_wp2_with fail
 go_loopg [7, 8] 0 (fun kx s7 s8 wr => W3 = wr ∧ s7 = ZI ZQ 0)
 case atStart => exact ⟨rfl, rfl⟩
 case round =>
  obtain ⟨rfl, rfl⟩ := hrel
  go_wp2_with fail
  go_ret
  exact RefPost.ok rfl HS3.out.kn HS3.out.bl
end Go.Proofs.Ytidfngcclbhoaaa
