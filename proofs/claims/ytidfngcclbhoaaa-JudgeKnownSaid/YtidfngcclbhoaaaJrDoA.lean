/-
 The document's side of layer 24: does: kind 2: its walk. Printed by wip/genjdo.py.
-/
import Derived.Test.YtidfngcclbhoaaaMjRefB
import Derived.StillTail
import Derived.Deep.RegionHeld3
namespace Go.Proofs.Ytidfngcclbhoaaa
open List renaming getElem_toArray → ZA, getElem_cons_zero → ZB, getElem_cons_succ → ZC, setIfInBounds_toArray → ZD, set_cons_zero → ZE, set_cons_succ → ZF, getElem?_toArray → ZG, getElem?_cons_zero → ZH, getElem?_cons_succ → ZJ
open Go.AllReadyH renaming cons → ZS, nil → ZN
open Go.Act renaming put → ZP
open Go.Value renaming int → ZI
open Go.IntKind renaming i64 → ZQ
set_option linter.unusedSimpArgs false
set_option linter.unusedVariables false
open Go.RowKit Go.Shelf
set_option maxRecDepth 100000 in
set_option maxHeartbeats 8000000 in
theorem rdoes_acks (b base : Nat) (k : KN) (vL vA vR vP : Value) (r : RW) (rs : List RGJ) (es : List EVJ) (w : World) (hK : KrAt w b base k vL vA vR vP) (hR : LieAt rgL 2 w base r.ra rs) (hE : LieAt evL 4 w base r.ea es) (hen : es.length = r.en) (henl : r.en ≤ 2000) (hkd : r.kind = 2) (hsp : r.sp = 0) (x : RGJ) (hx : rs[0]? = some x) (hrn : rs.length = r.rn) (hrl : r.rn ≤ 2000)
  (I : Nat → KN → Prop) (hI0 : I 0 (ackK k x.hi)) (hIk : ∀ i k1 e k2, I i k1 → es[i]? = some e → eventP k1 r rs e = .ok k2 → I (i + 1) k2) (hIp : ∀ i k1, I i k1 → k1.pieces.length ≤ 1900)
  (hEv : ∀ i k1 vL vA vR vP e W, I i k1 → es[i]? = some e → KrAt W b base k1 vL vA vR vP → LieAt rgL 2 W base r.ra rs → Calls Try.prog 80 #[.pointer (some ⟨b, 0, none⟩), .agg (rwC r), .agg #[ZI ZQ e.kind, ZI ZQ e.sp, ZI ZQ e.num, ZI ZQ e.n]] W (RefPost b base W (eventP k1 r rs e))) :
  Calls Try.prog 66 #[.pointer (some ⟨b, 0, none⟩), .agg (rwC r)] w (RefPost b base w (goesP r rs es (.ok (ackK k x.hi)))) := by
 obtain ⟨kind, rt, rsp, rsize, ⟨osp, onum, osize, oel, ofl, opr, oect⟩, delay, ra, rn, rc, marked, e0, e1, e2, ea, en, ec, err, smooth⟩ := r
 simp only at hR hE hen henl hkd hI0 hsp hrn hrl ⊢
 subst hkd
 subst hsp
 obtain ⟨res, hres⟩ : ∃ z9, goesP ⟨2, rt, 0, rsize, ⟨osp, onum, osize, oel, ofl, opr, oect⟩, delay, ra, rn, rc, marked, e0, e1, e2, ea, en, ec, err, smooth⟩ rs es (.ok (ackK k x.hi)) = z9 := ⟨_, rfl⟩
 rw [hres]
 have HRES := hide hres
 clear hres
 have hbb : base ≤ w.heap.size := Nat.le_of_lt (Nat.lt_of_le_of_lt hK.ge hK.blk.lt)
 have ha : Below w.heap.size w (w.alloc (.cells #[ZI ZQ 2, ZI ZQ rt, ZI ZQ 0, ZI ZQ rsize, ZI ZQ osp, ZI ZQ onum, ZI ZQ osize, .bool oel, .bool ofl, .bool opr, .bool oect, ZI ZQ delay, .slice ra rn rc, .bool marked, ZI ZQ e0, ZI ZQ e1, ZI ZQ e2, .slice ea en ec, ZI ZQ err, ZI ZQ smooth] 93)) := (Below.refl _ _).alloc (Nat.le_refl _) _
 have hs0 : RdSt w (w.alloc (.cells #[ZI ZQ 2, ZI ZQ rt, ZI ZQ 0, ZI ZQ rsize, ZI ZQ osp, ZI ZQ onum, ZI ZQ osize, .bool oel, .bool ofl, .bool opr, .bool oect, ZI ZQ delay, .slice ra rn rc, .bool marked, ZI ZQ e0, ZI ZQ e1, ZI ZQ e2, .slice ea en ec, ZI ZQ err, ZI ZQ smooth] 93)) b base k vL vA vR vP w.heap.size ⟨2, rt, 0, rsize, ⟨osp, onum, osize, oel, ofl, opr, oect⟩, delay, ra, rn, rc, marked, e0, e1, e2, ea, en, ec, err, smooth⟩ es rs := ⟨hK.later ha, Blk.new _ _ _, hE, hR, FarR.of_below ha hbb⟩
 unfold rwC
 obtain ⟨W1, hW1⟩ : ∃ x, w.alloc (.cells #[ZI ZQ 2, ZI ZQ rt, ZI ZQ 0, ZI ZQ rsize, ZI ZQ osp, ZI ZQ onum, ZI ZQ osize, .bool oel, .bool ofl, .bool opr, .bool oect, ZI ZQ delay, .slice ra rn rc, .bool marked, ZI ZQ e0, ZI ZQ e1, ZI ZQ e2, .slice ea en ec, ZI ZQ err, ZI ZQ smooth] 93) = x := ⟨_, rfl⟩
 obtain ⟨R, hRr⟩ : ∃ x, w.heap.size = x := ⟨_, rfl⟩
 go_enter Try.func66, Try.ntmps66
 go_upto_region 1 with (fail)
 rw [hW1, hRr] at hs0
 try rw [hW1]
 try rw [hRr]
 have HS := hide hs0
 have HE := hide hE
 have HIK := hide hIk
 have HIP := hide hIp
 have HEV := hide hEv
 have HI0 := hide hI0
 have HEN := hide hen
 have r0 := hs0.row.cell 0
 have r2 := hs0.row.cell 2
 have r17 := hs0.row.cell 17
 simp only [rwC, ZG, ZH, ZJ] at r0 r2 r17
 clear hs0 hW1 hRr ha hR hE hIk hIp hEv hI0 hK hen
 have hn0 : 0 < rn := by have := (List.getElem?_eq_some_iff.1 hx).1; omega
 have hn1 : (0 : Int) < (rn : Int) := by omega
 have HSP := hide (fun W => rspace_any 0 W)
 rw [show isSp 0 = true from rfl] at HSP
 obtain ⟨g, o, hra, hg, hz⟩ := HS.out.rg.at hx
 simp only at hra
 have r12 := HS.out.row.cell 12
 simp only [rwC, ZG, ZH, ZJ] at r12
 rw [hra] at r12
 clear hz
 go_wp2_with fail
 with_reducible refine (HSP.out _).mono ?_
 rintro y3 u3 ⟨rfl, rfl⟩
 have HN0 := hide hn0
 clear HSP hn0
 obtain ⟨tp, htp⟩ : ∃ y, k.top 0 = y := ⟨_, rfl⟩
 have c21 := HS.out.kn.blk.cell 21
 have c22 := HS.out.kn.blk.cell 22
 have c23 := HS.out.kn.blk.cell 23
 have l1 := HS.out.kn.blk.lt
 have l2 := HS.out.row.lt
 simp only [krC, htp, ZG, ZH, ZJ] at c21 c22 c23
 have HTP := hide htp
 clear htp
 go_upto_region 10 with (fail)
 have hs9 := (HS.out.later ((Below.refl _ _).alloc (Nat.le_refl _) (.cells #[ZI ZQ tp, ZI ZQ (k.top 1), ZI ZQ (k.top 2)] 30))).drew
 have hs11 := (HS.out.later (((Below.refl _ _).alloc (Nat.le_refl _) (.cells #[ZI ZQ tp, ZI ZQ (k.top 1), ZI ZQ (k.top 2)] 30)).setCell (p := ⟨W1.heap.size, 0, none⟩) (Nat.le_refl _) (ZI ZQ (max tp x.hi)))).drew
 have hX := Blk.new W1 30 #[ZI ZQ tp, ZI ZQ (k.top 1), ZI ZQ (k.top 2)]
 have hXb : W1.heap.size ≠ b := by omega
 have hXr : W1.heap.size ≠ R := by omega
 obtain ⟨X, hXq⟩ : ∃ x, W1.heap.size = x := ⟨_, rfl⟩
 obtain ⟨W9, hW9⟩ : ∃ x, W1.alloc (.cells #[ZI ZQ tp, ZI ZQ (k.top 1), ZI ZQ (k.top 2)] 30) = x := ⟨_, rfl⟩
 rw [hW9] at hs9 hX hs11
 rw [hW9]
 rw [hXq] at hX hXb hXr hs11
 try rw [hXq]
 clear hW9 HS l1 l2 c21 c22 c23 r0 r2 r12 r17
 obtain ⟨g', o', hra', hg', hz⟩ := hs9.rg.at hx
 simp only [hra] at hra'
 injection hra' with hra'
 injection hra' with q1 q2
 subst q1 q2
 have z1 := hz 1 _ (by omega) rfl
 simp only [Nat.zero_mul, Nat.add_zero] at z1
 have r2 := hs9.row.cell 2
 have r12 := hs9.row.cell 12
 have hX9 : Blk W9.drew X _ _ := hX
 have x0 := hX9.cell 0
 have xf := hX9.frozen 0
 simp only [rwC, ZG, ZH, ZJ] at r2 r12 x0
 rw [hra] at r12
 have HS9 := hide hs9
 have HS11 := hide hs11
 have HX := hide hX
 have HRA := hide hra
 clear hs9 hs11 hX hX9 hz hra
 refine wp_region_still_tail 14 (by kernel_rfl) (by kernel_rfl) ?_
 simp only [List.take_succ_cons, List.take_zero, List.drop_succ_cons, List.drop_zero]
 change wpStill _ _ W9.drew _ _ _
 repeat (refine wpStill_step (fun K hK => ?_); go_simp; with_reducible refine hK _ ?_; clear hK K)
 refine wpStill_nil ?_
 change wpList _ _ _ _ _ W9.drew
 go_upto_region 11 with (fail)
 obtain ⟨W11, hW11⟩ : ∃ z9, (W9.setCell ⟨X, 0, none⟩ (ZI ZQ (max tp x.hi))).drew = z9 := ⟨_, rfl⟩
 have hs := HS11.out
 have hX11 : Blk (W9.setCell ⟨X, 0, none⟩ (ZI ZQ (max tp x.hi))).drew X 30 #[ZI ZQ (max tp x.hi), ZI ZQ (k.top 1), ZI ZQ (k.top 2)] := (HX.out.set 0 (ZI ZQ (max tp x.hi))).eq rfl
 rw [hW11] at hX11 hs
 rw [hW11]
 clear hW11 HS9 HS11 HX x0 xf z1 r2 r12
 have x0 := hX11.cell 0
 have x1 := hX11.cell 1
 have x2 := hX11.cell 2
 have f21 := hs.kn.blk.frozen 21
 have f22 := hs.kn.blk.frozen 22
 have f23 := hs.kn.blk.frozen 23
 have c21 := hs.kn.blk.cell 21
 have c22 := hs.kn.blk.cell 22
 have c23 := hs.kn.blk.cell 23
 have HS1 := hide hs
 have p1 := hs.put 21 (ZI ZQ (max tp x.hi)) (ackK k x.hi) (by rw [← HTP.out]; rfl) rfl rfl rfl
 have p2 := p1.put 22 (ZI ZQ (k.top 1)) (ackK k x.hi) rfl rfl rfl rfl
 have p3 := p2.put 23 (ZI ZQ (k.top 2)) (ackK k x.hi) rfl rfl rfl rfl
 have HS := hide p3
 simp only [krC, ZG, ZH, ZJ] at x0 x1 x2 c21 c22 c23
 clear hs hX11 p1 p2 p3 HS1
 go_upto_region 20 with (fail)
 obtain ⟨W2, hW2⟩ : ∃ z9, ((W11.setCell ⟨b, 21, none⟩ (ZI ZQ (max tp x.hi))).setCell ⟨b, 22, none⟩ (ZI ZQ (k.top 1))).setCell ⟨b, 23, none⟩ (ZI ZQ (k.top 2)) = z9 := ⟨_, rfl⟩
 rw [hW2] at HS
 rw [hW2]
 clear hW2 x0 x1 x2 f21 f22 f23 c21 c22 c23 hXb hXr hn1
 go_wp2_with fail
 go_loopg [7, 8] en (fun kx s7 s8 wr => ∃ i : Nat, ∃ k2 vL2 vA2 vR2 vP2, s7 = ZI ZQ i ∧ i ≤ en ∧ en - i ≤ kx ∧ I i k2 ∧ Hid (eventsP ⟨2, rt, 0, rsize, ⟨osp, onum, osize, oel, ofl, opr, oect⟩, delay, ra, rn, rc, marked, e0, e1, e2, ea, en, ec, err, smooth⟩ rs (ackK k x.hi) es = eventsP ⟨2, rt, 0, rsize, ⟨osp, onum, osize, oel, ofl, opr, oect⟩, delay, ra, rn, rc, marked, e0, e1, e2, ea, en, ec, err, smooth⟩ rs k2 (es.drop i)) ∧ RdSt w wr b base k2 vL2 vA2 vR2 vP2 R ⟨2, rt, 0, rsize, ⟨osp, onum, osize, oel, ofl, opr, oect⟩, delay, ra, rn, rc, marked, e0, e1, e2, ea, en, ec, err, smooth⟩ es rs)
 case atStart => exact ⟨0, _, _, _, _, _, rfl, by omega, by omega, HI0.out, rfl, HS.out⟩
 case round =>
  obtain ⟨i, k2, vL2, vA2, vR2, vP2, rfl, hi, hkx, hP2, heq, hs⟩ := hrel
  have HP2 := hide hP2
  have r0 := hs.row.cell 0
  have r17 := hs.row.cell 17
  simp only [rwC, ZG, ZH, ZJ] at r0 r17
  clear hP2 HS
  by_cases hlt : i < en
  ·have hir : i < es.length := by rw [HEN.out]; exact hlt
   obtain ⟨e, he⟩ : ∃ e, es[i]? = some e := ⟨_, List.getElem?_eq_getElem hir⟩
   have hmem := he
   have hd := ev_drop (r := ⟨2, rt, 0, rsize, ⟨osp, onum, osize, oel, ofl, opr, oect⟩, delay, ra, rn, rc, marked, e0, e1, e2, ea, en, ec, err, smooth⟩) (rs := rs) (k := k2) he
   obtain ⟨g, o, rfl, hg, hz⟩ := hs.ev.at he
   have z0 := hz 0 _ (by omega) rfl
   have z1 := hz 1 _ (by omega) rfl
   have z2 := hz 2 _ (by omega) rfl
   have z3 := hz 3 _ (by omega) rfl
   simp only [Nat.add_zero] at z0
   have hin : (i : Int) < (en : Int) := by omega
   have HEQ : Hid (eventsP ⟨2, rt, 0, rsize, ⟨osp, onum, osize, oel, ofl, opr, oect⟩, delay, ra, rn, rc, marked, e0, e1, e2, (some ⟨g, o, none⟩), en, ec, err, smooth⟩ rs (ackK k x.hi) es = match eventP k2 ⟨2, rt, 0, rsize, ⟨osp, onum, osize, oel, ofl, opr, oect⟩, delay, ra, rn, rc, marked, e0, e1, e2, (some ⟨g, o, none⟩), en, ec, err, smooth⟩ rs e with
     | .ok k3 => eventsP ⟨2, rt, 0, rsize, ⟨osp, onum, osize, oel, ofl, opr, oect⟩, delay, ra, rn, rc, marked, e0, e1, e2, (some ⟨g, o, none⟩), en, ec, err, smooth⟩ rs k3 (es.drop (i + 1))
     | .error n => .error n) := by
    show _ = _
    rw [heq, hd]
    rfl
   have HS := hide hs
   have HMEM := hide hmem
   have y0 : wr.drew.cell? _ = _ := z0
   have y1 : wr.drew.cell? _ = _ := z1
   have y2 : wr.drew.cell? _ = _ := z2
   have y3 : wr.drew.cell? _ = _ := z3
   have y17 : wr.drew.cell? ⟨R, 17, none⟩ = _ := r17
   have HSD := hide hs.drew
   clear heq hd hir he hz hs hmem
   go_upto_region 23 with (fail)
   refine wp_region_still_tail 7 (by kernel_rfl) (by kernel_rfl) ?_
   simp only [List.take_succ_cons, List.take_zero, List.drop_succ_cons, List.drop_zero]
   change wpStill _ _ wr.drew _ _ _
   refine wpStill_step (fun K hK => ?_); go_simp; with_reducible refine hK _ ?_; clear hK K
   refine wpStill_load_row rfl 93 (.tmp 3) rfl R rfl 93 (rwC ⟨2, rt, 0, rsize, ⟨osp, onum, osize, oel, ofl, opr, oect⟩, delay, ra, rn, rc, marked, e0, e1, e2, (some ⟨g, o, none⟩), en, ec, err, smooth⟩) (0, 0) _ HSD.out.row Try.underlying93 rfl rrow_size ?_
   try simp only [ZP, ZA, ZB, ZC, ZD, ZE, ZF]
   repeat (refine wpStill_step (fun K hK => ?_); go_simp; with_reducible refine hK _ ?_; clear hK K)
   refine wpStill_nil ?_
   change wpList _ _ _ _ _ wr.drew
   clear z0 z1 z2 z3 y0 y1 y2 y3 r0 r17 y17
   go_wp2_with fail
   with_reducible refine (HEV.out i k2 vL2 vA2 vR2 vP2 e _ HP2.out HMEM.out HSD.out.kn HSD.out.rg).mono ?_
   cases hq : eventP k2 ⟨2, rt, 0, rsize, ⟨osp, onum, osize, oel, ofl, opr, oect⟩, delay, ra, rn, rc, marked, e0, e1, e2, (some ⟨g, o, none⟩), en, ec, err, smooth⟩ rs e with
   | error n =>
    rintro y7 W7 ⟨rfl, hf7⟩
    have HE9 : Hid (res = .error n) := by
     show _ = _
     rw [← HRES.out]
     unfold goesP
     simp only
     rw [HEQ.out, hq]
    have hn0 := event_pos hq
    go_wp2_with fail
    go_ret
    exact RefPost.err HE9.out (HSD.out.bl.trans hf7)
   | ok k3 =>
    rintro y7 W7 ⟨rfl, vL3, vA3, vR3, vP3, hk3, hf7⟩
    have hs7 := HSD.out.far hf7 hk3
    have HS7 := hide hs7
    have HP3 := hide (HIK.out i k2 e k3 HP2.out HMEM.out hq)
    rw [hq] at HEQ
    have HEQ7 := hide HEQ.out
    clear hs7 hk3 hf7 hq HEQ HS HSD
    go_wp2_with fail
    go_roundg (en - (i + 1))
    case rel => exact ⟨i + 1, k3, vL3, vA3, vR3, vP3, by go_num, by omega, by omega, HP3.out, HEQ7.out, HS7.out⟩
    case measure => omega
  ·obtain rfl : en = i := by omega
   have hin : ¬ (en : Int) < (en : Int) := by omega
   have HEQ : Hid (eventsP ⟨2, rt, 0, rsize, ⟨osp, onum, osize, oel, ofl, opr, oect⟩, delay, ra, rn, rc, marked, e0, e1, e2, ea, en, ec, err, smooth⟩ rs (ackK k x.hi) es = .ok k2) := by
    show _ = _
    rw [heq, List.drop_of_length_le (by rw [HEN.out]; exact Nat.le_refl _)]
    rfl
   have HEE : Hid (res = .ok (pieceK k2 ⟨2, rt, 0, rsize, ⟨osp, onum, osize, oel, ofl, opr, oect⟩, delay, ra, rn, rc, marked, e0, e1, e2, ea, en, ec, err, smooth⟩)) := by
    show _ = _
    rw [← HRES.out]
    unfold goesP
    simp only
    rw [HEQ.out]
   clear heq HEQ
   rw [show pieceK k2 ⟨2, rt, 0, rsize, ⟨osp, onum, osize, oel, ofl, opr, oect⟩, delay, ra, rn, rc, marked, e0, e1, e2, ea, en, ec, err, smooth⟩ = { k2 with pieces := k2.pieces ++ [(⟨rt, k2.window, smooth⟩ : PIE)] } from rfl] at HEE
   obtain ⟨i0, hi0, hz0, hz1, hz2⟩ := info_parts three_info
   obtain ⟨A8, c8, rfl⟩ := own_sl hs.kn.r
   have ho := hs.kn.r
   have hpn := HIP.out _ k2 HP2.out
   obtain ⟨M, hM⟩ : ∃ x, k2.pieces.length = x := ⟨_, rfl⟩
   rw [hM] at ho hpn
   obtain ⟨xs, hxs⟩ : ∃ x, k2.pieces.flatMap pieL = x := ⟨_, rfl⟩
   rw [hxs] at ho
   have kc := hs.kn.blk.cell 28
   have fc := hs.kn.blk.frozen 28
   have hbase := hs.room
   simp only [krC, hM, ZG, ZH, ZJ] at kc
   have hneR := own_ne ho hs.row (by decide)
   have hneB := own_ne ho hs.kn.blk (by decide)
   have kca : (wr.alloc (.cells #[ZI ZQ rt, ZI ZQ k2.window, ZI ZQ smooth] 30)).cell? ⟨b, 28, none⟩ = some (.slice A8 M c8) := by have := (hs.kn.blk.alloc (.cells #[ZI ZQ rt, ZI ZQ k2.window, ZI ZQ smooth] 30)).cell 28; rw [this]; simp [krC, hM]
   have kcb : (wr.alloc (.cells #[ZI ZQ rt, ZI ZQ k2.window, ZI ZQ smooth] 30)).drew.cell? ⟨b, 28, none⟩ = some (.slice A8 M c8) := kca
   have HPX : Hid ((k2.pieces ++ [(⟨rt, k2.window, smooth⟩ : PIE)]).length = M + 1 ∧ (k2.pieces ++ [(⟨rt, k2.window, smooth⟩ : PIE)]).flatMap pieL = xs ++ [ZI ZQ rt, ZI ZQ k2.window, ZI ZQ smooth]) := ⟨by rw [List.length_append, hM]; rfl, by rw [List.flatMap_append, hxs]; rfl⟩
   have hM' := hide hM
   have hS0 : wr.drew.cell? ⟨R, 1, none⟩ = some (ZI ZQ rt) ∧ wr.drew.cell? ⟨R, 19, none⟩ = some (ZI ZQ smooth) ∧ wr.drew.cell? ⟨b, 11, none⟩ = some (ZI ZQ k2.window) := ⟨hs.drew.row.cell 1, hs.drew.row.cell 19, hs.drew.kn.blk.cell 11⟩
   go_upto_region 27 with (fail)
   refine wp_region_held_drew (S := (fun w' => w'.cell? ⟨R, 1, none⟩ = some (ZI ZQ rt) ∧ w'.cell? ⟨R, 19, none⟩ = some (ZI ZQ smooth) ∧ w'.cell? ⟨b, 11, none⟩ = some (ZI ZQ k2.window))) (by kernel_rfl) hS0 (fun hHeld => ?_)
   refine tkP 0 ?_ rfl ?_ ?_
   rotate_left
   ·intro w' hSw; (try dsimp only at hSw); obtain ⟨hw1, hw2, hw3⟩ := hSw; go_simp; try with_reducible rfl
   try simp only [ZP, ZA, ZB, ZC, ZD, ZE, ZF]
   refine tkP 1 ?_ rfl ?_ ?_
   rotate_left
   ·intro w' hSw; (try dsimp only at hSw); obtain ⟨hw1, hw2, hw3⟩ := hSw; go_simp; try with_reducible rfl
   try simp only [ZP, ZA, ZB, ZC, ZD, ZE, ZF]
   refine tkP 2 ?_ rfl ?_ ?_
   rotate_left
   ·intro w' hSw; (try dsimp only at hSw); obtain ⟨hw1, hw2, hw3⟩ := hSw; go_simp; try with_reducible rfl
   try simp only [ZP, ZA, ZB, ZC, ZD, ZE, ZF]
   refine tkP 3 ?_ rfl ?_ ?_
   rotate_left
   ·intro w' hSw; (try dsimp only at hSw); obtain ⟨hw1, hw2, hw3⟩ := hSw; go_simp; try with_reducible rfl
   try simp only [ZP, ZA, ZB, ZC, ZD, ZE, ZF]
   refine tkP 5 ?_ rfl ?_ ?_
   rotate_left
   ·intro w' hSw; (try dsimp only at hSw); obtain ⟨hw1, hw2, hw3⟩ := hSw; go_simp; try with_reducible rfl
   try simp only [ZP, ZA, ZB, ZC, ZD, ZE, ZF]
   refine tkP 6 ?_ rfl ?_ ?_
   rotate_left
   ·intro w' hSw; (try dsimp only at hSw); obtain ⟨hw1, hw2, hw3⟩ := hSw; go_simp; try with_reducible rfl
   try simp only [ZP, ZA, ZB, ZC, ZD, ZE, ZF]
   refine tkP 7 ?_ rfl ?_ ?_
   rotate_left
   ·intro w' hSw; (try dsimp only at hSw); obtain ⟨hw1, hw2, hw3⟩ := hSw; go_simp; try with_reducible rfl
   try simp only [ZP, ZA, ZB, ZC, ZD, ZE, ZF]
   refine tkP 8 ?_ rfl ?_ ?_
   rotate_left
   ·intro w' hSw; (try dsimp only at hSw); obtain ⟨hw1, hw2, hw3⟩ := hSw; go_simp; try with_reducible rfl
   try simp only [ZP, ZA, ZB, ZC, ZD, ZE, ZF]
   refine tkP 9 ?_ rfl ?_ ?_
   rotate_left
   ·intro w' hSw; (try dsimp only at hSw); obtain ⟨hw1, hw2, hw3⟩ := hSw; go_simp; try with_reducible rfl
   try simp only [ZP, ZA, ZB, ZC, ZD, ZE, ZF]
   refine tkP 10 ?_ rfl ?_ ?_
   rotate_left
   ·intro w' hSw; (try dsimp only at hSw); obtain ⟨hw1, hw2, hw3⟩ := hSw; go_simp; try with_reducible rfl
   try simp only [ZP, ZA, ZB, ZC, ZD, ZE, ZF]
   refine tkP 11 ?_ rfl ?_ ?_
   rotate_left
   ·intro w' hSw; (try dsimp only at hSw); obtain ⟨hw1, hw2, hw3⟩ := hSw; go_simp; try with_reducible rfl
   try simp only [ZP, ZA, ZB, ZC, ZD, ZE, ZF]
   refine tkP 12 ?_ rfl ?_ ?_
   rotate_left
   ·intro w' hSw; (try dsimp only at hSw); obtain ⟨hw1, hw2, hw3⟩ := hSw; go_simp; try with_reducible rfl
   try simp only [ZP, ZA, ZB, ZC, ZD, ZE, ZF]
   refine tkP 13 ?_ rfl ?_ ?_
   rotate_left
   ·intro w' hSw; (try dsimp only at hSw); obtain ⟨hw1, hw2, hw3⟩ := hSw; go_simp; try with_reducible rfl
   try simp only [ZP, ZA, ZB, ZC, ZD, ZE, ZF]
   refine tkR [4, 14] ?_
   refine ZS rfl (fun K hK => ?_) ?_
   ·skip
    go_simp
    refine hK.out _ _ (hS0) (fun hHeld => ?_)
    clear hK K
    try simp only [ZP, ZA, ZB, ZC, ZD, ZE, ZF]
    refine tkR [14] ?_
    refine ZS rfl (fun K hK => ?_) ZN
    go_simp
    refine hK.out _ _ (by exact ⟨(hs.row.alloc _).cell 1, (hs.row.alloc _).cell 19, (hs.kn.blk.alloc _).cell 11⟩) (fun hHeld => ?_)
    clear hK K
    try simp only [ZP, ZA, ZB, ZC, ZD, ZE, ZF]
    refine tkR [15] ?_
    refine ZS rfl (fun K hK => ?_) ZN
    refine step_append_any _ rfl (.tmp 113) (.tmp 123) _ rfl base 30 i0 _ 3 24 Try.underlying87 hi0 hz0 hz1 hz2 rfl (by decide) (.slice A8 M c8) M xs rfl (by exact ho.alloc _) (wr.heap.size + 1) (some ⟨wr.heap.size, 0, none⟩) 1 1 [ZI ZQ rt, ZI ZQ k2.window, ZI ZQ smooth] rfl (by exact reads_lit (blk_new_at (by simp)) (by simp) rfl) (by simp [Value.oneCell']) (by unfold maxLen; omega) (by omega) (by simp; omega) ?_; intro v8 w8 hown8 hg8 hat8; obtain ⟨g8, cap8, rfl⟩ := own_form hown8; have hr8 := blk_grown (t := 93) (by exact hs.row.alloc _) hg8 hneR; have hb8 := blk_grown (t := 92) (by exact hs.kn.blk.alloc _) hg8 hneB; have y8 := hb8.cell 28; have f8 := hb8.frozen 28
    try go_simp
    refine hK.out _ _ (by exact ⟨hr8.cell 1, hr8.cell 19, hb8.cell 11⟩) (fun hHeld => ?_)
    clear hK K
    refine tkP 16 ?_ rfl ?_ ?_
    rotate_left
    ·intro w' hSw; (try dsimp only at hSw); obtain ⟨hw1, hw2, hw3⟩ := hSw; go_simp; try with_reducible rfl
    try simp only [ZP, ZA, ZB, ZC, ZD, ZE, ZF]
    refine tkP 17 ?_ rfl ?_ ?_
    rotate_left
    ·intro w' hSw; (try dsimp only at hSw); obtain ⟨hw1, hw2, hw3⟩ := hSw; go_simp; try with_reducible rfl
    try simp only [ZP, ZA, ZB, ZC, ZD, ZE, ZF]
    refine tkR [18] ?_
    refine ZS rfl (fun K hK => ?_) ZN
    go_simp
    refine hK.out _ _ (by exact ⟨(hr8.far (blk_ne hr8 hb8 (by decide)) _).cell 1, (hr8.far (blk_ne hr8 hb8 (by decide)) _).cell 19, (hb8.set 28 _).cell 11⟩) (fun hHeld => ?_)
    clear hK K
    refine wpAnyH_done (by kernel_rfl) ?_ _
    go_wp2_with fail
    go_ret
    have hpp := RdSt.pushR hs (q := (⟨rt, k2.window, smooth⟩ : PIE)) (vR := .slice A8 k2.pieces.length c8) (X := .cells #[ZI ZQ rt, ZI ZQ k2.window, ZI ZQ smooth] 30) (by rw [hM'.out]; exact ⟨hg8.os, hg8.tape, hg8.output, hg8.size, hg8.block⟩) (by rw [HPX.out.1, HPX.out.2]; exact hown8)
    exact RefPost.ok HEE.out hpp.kn hpp.bl
   refine ZS rfl (fun K hK => ?_) ZN
   go_simp
   refine hK.out _ _ (by exact ⟨(hs.row.alloc _).cell 1, (hs.row.alloc _).cell 19, (hs.kn.blk.alloc _).cell 11⟩) (fun hHeld => ?_)
   clear hK K
   try simp only [ZP, ZA, ZB, ZC, ZD, ZE, ZF]
   refine tkR [4] ?_
   refine ZS rfl (fun K hK => ?_) ZN
   go_simp
   refine hK.out _ _ (by exact ⟨(hs.row.alloc _).cell 1, (hs.row.alloc _).cell 19, (hs.kn.blk.alloc _).cell 11⟩) (fun hHeld => ?_)
   clear hK K
   try simp only [ZP, ZA, ZB, ZC, ZD, ZE, ZF]
   refine tkR [15] ?_
   refine ZS rfl (fun K hK => ?_) ZN
   refine step_append_any _ rfl (.tmp 113) (.tmp 123) _ rfl base 30 i0 _ 3 24 Try.underlying87 hi0 hz0 hz1 hz2 rfl (by decide) (.slice A8 M c8) M xs rfl (by exact ho.alloc _) (wr.heap.size + 1) (some ⟨wr.heap.size, 0, none⟩) 1 1 [ZI ZQ rt, ZI ZQ k2.window, ZI ZQ smooth] rfl (by exact reads_lit (blk_new_at (by simp)) (by simp) rfl) (by simp [Value.oneCell']) (by unfold maxLen; omega) (by omega) (by simp; omega) ?_; intro v8 w8 hown8 hg8 hat8; obtain ⟨g8, cap8, rfl⟩ := own_form hown8; have hr8 := blk_grown (t := 93) (by exact hs.row.alloc _) hg8 hneR; have hb8 := blk_grown (t := 92) (by exact hs.kn.blk.alloc _) hg8 hneB; have y8 := hb8.cell 28; have f8 := hb8.frozen 28
   try go_simp
   refine hK.out _ _ (by exact ⟨hr8.cell 1, hr8.cell 19, hb8.cell 11⟩) (fun hHeld => ?_)
   clear hK K
   refine tkP 16 ?_ rfl ?_ ?_
   rotate_left
   ·intro w' hSw; (try dsimp only at hSw); obtain ⟨hw1, hw2, hw3⟩ := hSw; go_simp; try with_reducible rfl
   try simp only [ZP, ZA, ZB, ZC, ZD, ZE, ZF]
   refine tkP 17 ?_ rfl ?_ ?_
   rotate_left
   ·intro w' hSw; (try dsimp only at hSw); obtain ⟨hw1, hw2, hw3⟩ := hSw; go_simp; try with_reducible rfl
   try simp only [ZP, ZA, ZB, ZC, ZD, ZE, ZF]
   refine tkR [18] ?_
   refine ZS rfl (fun K hK => ?_) ZN
   go_simp
   refine hK.out _ _ (by exact ⟨(hr8.far (blk_ne hr8 hb8 (by decide)) _).cell 1, (hr8.far (blk_ne hr8 hb8 (by decide)) _).cell 19, (hb8.set 28 _).cell 11⟩) (fun hHeld => ?_)
   clear hK K
   refine wpAnyH_done (by kernel_rfl) ?_ _
   go_wp2_with fail
   go_ret
   have hpp := RdSt.pushR hs (q := (⟨rt, k2.window, smooth⟩ : PIE)) (vR := .slice A8 k2.pieces.length c8) (X := .cells #[ZI ZQ rt, ZI ZQ k2.window, ZI ZQ smooth] 30) (by rw [hM'.out]; exact ⟨hg8.os, hg8.tape, hg8.output, hg8.size, hg8.block⟩) (by rw [HPX.out.1, HPX.out.2]; exact hown8)
   exact RefPost.ok HEE.out hpp.kn hpp.bl
end Go.Proofs.Ytidfngcclbhoaaa
