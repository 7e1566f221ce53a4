/-
 Layer 24 (judge): event: its walk (acked, window). Printed by wip/geneva.py.
-/
import Derived.Test.YtidfngcclbhoaaaJgEvent
namespace Go.Proofs.Ytidfngcclbhoaaa
open List renaming getElem?_toArray → ZG, getElem?_cons_zero → ZH, getElem?_cons_succ → ZJ
open Go.Value renaming int → ZI
open Go.IntKind renaming i64 → ZQ
set_option linter.unusedSimpArgs false
set_option linter.unusedVariables false
open Go.RowKit Go.Shelf
set_option maxRecDepth 100000 in
set_option maxHeartbeats 8000000 in
theorem event_acked (b base : Nat) (k : KN) (vf vp vd : Value) (r : RW) (rs : List RGJ) (e : EVJ) (w : World) (hK : KnAt w b base k vf vp vd) (hR : LieAt rgL 2 w base r.ra rs) (hrn : rs.length = r.rn) (hrl : r.rn ≤ 2000) (hfn : k.flying.length ≤ 2000) (hk : e.kind = 1) :
  Calls Try.prog 32 #[.pointer (some ⟨b, 0, none⟩), .agg (rwC r), .agg #[ZI ZQ e.kind, ZI ZQ e.sp, ZI ZQ e.num, ZI ZQ e.n]] w (StepPost b base w (eventP k r rs e)) := by
 obtain ⟨A, c, rfl⟩ := own_sl hK.fl
 obtain ⟨kind, rt, rsp, rsize, ⟨osp, onum, osize, oel, ofl, opr, oect⟩, delay, ra, rn, rc, marked, e0, e1, e2, ea, en, ec, err, smooth⟩ := r
 obtain ⟨ek, es, em, ee⟩ := e
 simp only at hR hrn hrl hk ⊢
 subst hk
 obtain ⟨res, hres⟩ : ∃ x, eventP k ⟨kind, rt, rsp, rsize, ⟨osp, onum, osize, oel, ofl, opr, oect⟩, delay, ra, rn, rc, marked, e0, e1, e2, ea, en, ec, err, smooth⟩ rs ⟨1, es, em, ee⟩ = x := ⟨_, rfl⟩
 rw [hres]
 have HRES := hide hres
 clear hres
 have hge := hK.ge
 have hbb : base ≤ w.heap.size := Nat.le_of_lt (Nat.lt_of_le_of_lt hK.ge hK.blk.lt)
 unfold rwC
 have ha : Below w.heap.size w ((w.alloc (.cells #[ZI ZQ kind, ZI ZQ rt, ZI ZQ rsp, ZI ZQ rsize, ZI ZQ osp, ZI ZQ onum, ZI ZQ osize, .bool oel, .bool ofl, .bool opr, .bool oect, ZI ZQ delay, .slice ra rn rc, .bool marked, ZI ZQ e0, ZI ZQ e1, ZI ZQ e2, .slice ea en ec, ZI ZQ err, ZI ZQ smooth] 36)).alloc (.cells #[ZI ZQ 1, ZI ZQ es, ZI ZQ em, ZI ZQ ee] 46)) := ((Below.refl _ _).alloc (Nat.le_refl _) _).alloc (by simp) _
 have hs0 : EvSt w ((w.alloc (.cells #[ZI ZQ kind, ZI ZQ rt, ZI ZQ rsp, ZI ZQ rsize, ZI ZQ osp, ZI ZQ onum, ZI ZQ osize, .bool oel, .bool ofl, .bool opr, .bool oect, ZI ZQ delay, .slice ra rn rc, .bool marked, ZI ZQ e0, ZI ZQ e1, ZI ZQ e2, .slice ea en ec, ZI ZQ err, ZI ZQ smooth] 36)).alloc (.cells #[ZI ZQ 1, ZI ZQ es, ZI ZQ em, ZI ZQ ee] 46)) b base k (.slice A k.flying.length c) vp vd w.heap.size (w.heap.size + 1) ⟨kind, rt, rsp, rsize, ⟨osp, onum, osize, oel, ofl, opr, oect⟩, delay, ra, rn, rc, marked, e0, e1, e2, ea, en, ec, err, smooth⟩ ⟨1, es, em, ee⟩ rs := by
  refine ⟨hK.later ha, (Blk.new _ _ _).alloc _, ?_, hR.later (ha.mono hbb), Far.of_below ha hbb⟩
  have := Blk.new (w.alloc (.cells #[ZI ZQ kind, ZI ZQ rt, ZI ZQ rsp, ZI ZQ rsize, ZI ZQ osp, ZI ZQ onum, ZI ZQ osize, .bool oel, .bool ofl, .bool opr, .bool oect, ZI ZQ delay, .slice ra rn rc, .bool marked, ZI ZQ e0, ZI ZQ e1, ZI ZQ e2, .slice ea en ec, ZI ZQ err, ZI ZQ smooth] 36)) 46 #[ZI ZQ 1, ZI ZQ es, ZI ZQ em, ZI ZQ ee]
  simpa using this
 obtain ⟨W1, hW1⟩ : ∃ x, (w.alloc (.cells #[ZI ZQ kind, ZI ZQ rt, ZI ZQ rsp, ZI ZQ rsize, ZI ZQ osp, ZI ZQ onum, ZI ZQ osize, .bool oel, .bool ofl, .bool opr, .bool oect, ZI ZQ delay, .slice ra rn rc, .bool marked, ZI ZQ e0, ZI ZQ e1, ZI ZQ e2, .slice ea en ec, ZI ZQ err, ZI ZQ smooth] 36)).alloc (.cells #[ZI ZQ 1, ZI ZQ es, ZI ZQ em, ZI ZQ ee] 46) = x := ⟨_, rfl⟩
 obtain ⟨R, hRr⟩ : ∃ x, w.heap.size = x := ⟨_, rfl⟩
 have HPL := hide (fun W h => place_any b base k (.slice A k.flying.length c) vp vd ⟨1, es, em, ee⟩ W h hfn)
 obtain ⟨n, hn⟩ : ∃ x, idxF (atP ⟨1, es, em, ee⟩) k.flying 0 = x := ⟨_, rfl⟩
 rw [hn] at HPL
 have HN := hide hn
 have HY := hide (fun rule W => unless_yes rule W)
 have HNO := hide (fun rule W => unless_no rule W)
 go_enter Try.func32, Try.ntmps32
 go_upto_region 1 with (fail)
 rw [hW1, hRr] at hs0
 try rw [hW1]
 try rw [hRr]
 have HS1 := hide hs0
 have x0 := hs0.ev.cell 0
 have x1 := hs0.ev.cell 1
 have x2 := hs0.ev.cell 2
 have x3 := hs0.ev.cell 3
 simp only [ZG, ZH, ZJ] at x0 x1 x2 x3
 clear hs0 hW1 ha hR hRr hn
 go_wp2_with fail
 with_reducible refine (HPL.out _ HS1.out.kn).mono ?_
 rintro y1 W2 ⟨rfl, hb1⟩
 have hs2 := HS1.out.later hb1
 have HS2 := hide hs2
 clear HS1 x0 x1 x2 x3 hb1 HPL
 have x0 := hs2.ev.cell 0
 have x1 := hs2.ev.cell 1
 have x2 := hs2.ev.cell 2
 have x3 := hs2.ev.cell 3
 have r0 := hs2.row.cell 0
 have r1 := hs2.row.cell 1
 have r2 := hs2.row.cell 2
 have r12 := hs2.row.cell 12
 simp only [rwC, ZG, ZH, ZJ] at x0 x1 x2 x3 r0 r1 r2 r12
 clear hs2
 have hbb2 : base ≤ W2.heap.size := Nat.le_of_lt (Nat.lt_of_le_of_lt HS2.out.kn.ge HS2.out.kn.blk.lt)
 cases h1 : (kind == 2) with
 | false =>
  go_wp2_with fail
  with_reducible refine (HNO.out _ _).mono ?_
  rintro y2 u2 ⟨rfl, rfl⟩
  exact ⟨rfl, StepPost.err (by rw [← HRES.out]; simp [eventP, h1]) HS2.out.bl⟩
 | true =>
  cases h2 : (es == rsp) with
  | false =>
   go_wp2_with fail
   with_reducible refine (HNO.out _ _).mono ?_
   rintro y2 u2 ⟨rfl, rfl⟩
   exact ⟨rfl, StepPost.err (by rw [← HRES.out]; simp [eventP, h1, h2]) HS2.out.bl⟩
  | true =>
   by_cases h3 : 0 ≤ n
   ·have HCO := hide (fun W h hx => con_rg em (R + 1) ra rn rc rs W hrn hrl h hx)
    cases h4 : rs.any (inR em) with
    | false =>
     rw [h4] at HCO
     go_wp2_with fail
     with_reducible refine (HCO.out _ (HS2.out.rg.up hbb2) x2).mono ?_
     rintro y3 W3 ⟨rfl, hb3⟩
     have hs3 := HS2.out.later hb3
     go_wp2_with fail
     with_reducible refine (HNO.out _ _).mono ?_
     rintro y2 u2 ⟨rfl, rfl⟩
     exact ⟨rfl, StepPost.err (by rw [← HRES.out]; simp [eventP, h1, h2, h4]) hs3.bl⟩
    | true =>
     rw [h4] at HCO
     have hz : res = .ok (goneK k n.toNat) := by
      rw [← HRES.out]
      simp [eventP, h1, h2, h4, HN.out, h3]
     have HZ := hide hz
     obtain ⟨j, x, hj, hx, hP, _⟩ := idxF_at _ _ _ (show 0 ≤ idxF (atP ⟨1, es, em, ee⟩) k.flying 0 by rw [HN.out]; exact h3)
     have hjl : j < k.flying.length := (List.getElem?_eq_some_iff.1 hx).1
     rw [HN.out, Nat.zero_add] at hj
     clear hz hx hP HRES HN
     subst hj
     obtain ⟨M, hM⟩ : ∃ x, k.flying.length = x := ⟨_, rfl⟩
     have HM := hide hM
     rw [hM] at HS2 hjl hfn
     clear hM
     go_wp2_with fail
     with_reducible refine (HCO.out _ (HS2.out.rg.up hbb2) x2).mono ?_
     rintro y3 W3 ⟨rfl, hb3⟩
     have hs3 := HS2.out.later hb3
     have HS3 := hide hs3
     clear hb3 HCO HS2 x0 x1 x2 x3 r0 r1 r2 r12
     have k16 := hs3.kn.blk.cell 16
     have f16 := hs3.kn.blk.frozen 16
     simp only [knC, ZG, ZH, ZJ] at k16
     clear hs3
     go_wp2_with fail
     with_reducible refine (HY.out _ _).mono ?_
     rintro y2 u2 ⟨rfl, rfl⟩
     have hfl := HS3.out.kn.fl
     rw [HM.out] at hfl
     rcases own_split hfl with ⟨h0, _, _⟩ | ⟨g, cap, cur, hv, hg, hB, hc, hm, hcl, ht⟩
     ·exact absurd h0 (by intro h0; cases h0; omega)
     ·cases hv
      obtain ⟨d, hd⟩ : ∃ d, j + 1 + d = M := ⟨M - (j + 1), by omega⟩
      have hdel := delete_one base M j (j + 1) d g c cur k.flying W3 HM.out hg hB hc hm hcl ht hfn rfl hd (j + d) rfl
      rw [show ((j + 1 : Nat) : Int) = (j : Int) + 1 from rfl] at hdel
      have HDEL := hide hdel
      have HB3 := hide hB
      have HD := hide hd
      clear hdel hfl hB hcl ht hd
      go_wp2_with fail
      with_reducible refine HDEL.out.mono ?_
      rintro y4 W4 ⟨rfl, hown, hO⟩
      have hgn := KnAt.gone HS3.out.kn hg HB3.out (by rw [List.length_eraseIdx, HM.out, if_pos hjl]; have := HD.out; omega) hown hO
      have HGN := hide hgn
      have hb4 : Blk W4 b 58 _ := hO.blk HS3.out.kn.blk (by intro hc; rw [List.mem_singleton] at hc; exact own_ne HS3.out.kn.fl HS3.out.kn.blk (by decide) (by rw [hc]; rfl))
      have k16 := hb4.cell 16
      have f16 := hb4.frozen 16
      simp only [knC, ZG, ZH, ZJ] at k16
      clear hgn hb4 hown hO HDEL
      go_wp2_with fail
      go_end0
      exact StepPost.ok HZ.out HGN.out.1 (HS3.out.bl.trans HGN.out.2)
   ·have h3' : ¬ 0 ≤ n := h3
    go_wp2_with fail
    with_reducible refine (HNO.out _ _).mono ?_
    rintro y2 u2 ⟨rfl, rfl⟩
    exact ⟨rfl, StepPost.err (by rw [← HRES.out]; simp [eventP, h1, h2, HN.out]; intro h; omega) HS2.out.bl⟩
end Go.Proofs.Ytidfngcclbhoaaa
