/-
 A space: Lose, at any time and measure, told exactly. Printed by wip/genspglose.py.
-/
import Derived.Test.YtgicljeedegncaaGreatSpgFind
import Derived.Test.YtgicljeedegncaaGreatSpgAck
import Derived.Test.YtgicljeedegncaaGreatTqSpLawB
namespace Go.Proofs.YtgicljeedegncaaGreat
open List renaming getElem_toArray → ZA, getElem_cons_zero → ZB, getElem_cons_succ → ZC, setIfInBounds_toArray → ZD, set_cons_zero → ZE, set_cons_succ → ZF
open Go.Act renaming put → ZP
open Go.Value renaming int → ZI
open Go.IntKind renaming i64 → ZQ
set_option linter.unusedSimpArgs false
set_option linter.unusedVariables false
open Go.RowKit

/-- What Lose answers. -/
def loseE (now : Int) (r : RT) : Int := if isT now = true then (if rtC r = true then 0 else 2) else 9
set_option maxRecDepth 100000 in
set_option maxHeartbeats 4000000 in
theorem lossfindq_no (a : Option Addr) (n cap : Nat) (qs : List PK) (acked now : Int) (r : RT) (w : World) (z : Int) (hz : loseE now r = z) (hz0 : z ≠ 0) (hsm : -9223372036854775808 ≤ r.smooth ∧ r.smooth ≤ 9223372036854775807) (hn : qs.length = n) (hl : n ≤ 256) (hP : PksAt w a qs) (ha : ∀ k o, a = some ⟨k, o, none⟩ → k < w.heap.size) (hck : checkL qs = 0) (ht : ∀ q ∈ qs, 0 ≤ q.n ∧ q.n ≤ 9007199254740991 ∧ 0 ≤ q.t ∧ q.t ≤ 9007199254740991)
  (a0 : -1 ≤ acked) (a1 : acked ≤ 9007199254740991) :
  Calls Tryz.prog 52 #[.slice a n cap, ZI ZQ acked, ZI ZQ now, rtV r] w fun e w' => e = .returned (.tuple #[.slice none 0 0, .slice none 0 0, ZI ZQ 0, ZI ZQ z]) ∧ Below w.heap.size w w' := by
 have HCR := hide (fun W => rttcheck_any r W hsm)
 have HIT := hide (fun W => istime_any now W)
 unfold loseE at hz
 obtain ⟨rl, rm, rz, rv, rf⟩ := r
 unfold rtV at HCR ⊢
 dsimp only at HCR hz hsm ⊢
 have hba : Below w.heap.size w (w.alloc (.cells #[ZI ZQ rl, ZI ZQ rm, ZI ZQ rz, ZI ZQ rv, ZI ZQ rf] 45)) := (Below.refl _ _).alloc (Nat.le_refl _) _
 have hx := Blk.new w 45 #[ZI ZQ rl, ZI ZQ rm, ZI ZQ rz, ZI ZQ rv, ZI ZQ rf]
 have HCK := hide (losscheck_any a n cap qs (w.alloc (.cells #[ZI ZQ rl, ZI ZQ rm, ZI ZQ rz, ZI ZQ rv, ZI ZQ rf] 45)) hn (hP.below hba (Nat.le_refl _)) (fun k o e => Nat.lt_of_lt_of_le (ha k o e) hba.size))
 rw [hck] at HCK
 have HB := hide hba
 have HX := hide hx
 clear hn hP ha hck ht hba hx
 cases hit : isT now with
 | false =>
  rw [hit] at hz
  have hz9 : z = 9 := by rw [← hz]; rfl
  subst hz9
  unfold isT at hit
  rw [hit] at HIT
  clear hz hit
  go_enter Tryz.func52, Tryz.ntmps52
  go_wp2_with fail
  refine HCK.out.mono ?_
  rintro e1 w1 ⟨rfl, hb1⟩
  have HB1 := hide (bw_below' HB.out hb1)
  clear hb1 HCK HB HX
  go_wp2_with fail
  refine (HIT.out _).mono ?_
  rintro e2 w2 ⟨rfl, rfl⟩
  go_wp2_with fail
  exact bodyPost_ret (v := .tuple #[.slice none 0 0, .slice none 0 0, ZI ZQ 0, ZI ZQ 9]) (by simp [results, Tryz.results52, go_sem]) rfl ⟨rfl, HB1.out⟩
 | true =>
  rw [hit] at hz
  have hrt : ¬ rtC ⟨rl, rm, rz, rv, rf⟩ = true := fun h => by rw [if_pos rfl, if_pos h] at hz; exact hz0 hz.symm
  have hz2 : z = 2 := by rw [← hz, if_pos rfl, if_neg hrt]
  subst hz2
  rw [if_neg hrt] at HCR
  unfold isT at hit
  rw [hit] at HIT
  clear hz hit hrt
  go_enter Tryz.func52, Tryz.ntmps52
  go_wp2_with fail
  refine HCK.out.mono ?_
  rintro e1 w1 ⟨rfl, hb1⟩
  have hx1 : Blk w1 w.heap.size 45 #[ZI ZQ rl, ZI ZQ rm, ZI ZQ rz, ZI ZQ rv, ZI ZQ rf] := (hb1.block _ HX.out.lt).trans HX.out
  have HB1 := hide (bw_below' HB.out hb1)
  have HX1 := hide hx1
  clear hb1 hx1 HCK HB HX
  go_wp2_with fail
  refine (HIT.out _).mono ?_
  rintro e2 w2 ⟨rfl, rfl⟩
  have x0 := HX1.out.cell 0
  have x1 := HX1.out.cell 1
  have x2 := HX1.out.cell 2
  have x3 := HX1.out.cell 3
  have x4 := HX1.out.cell 4
  go_wp2_with fail
  refine (HCR.out _).mono ?_
  rintro e3 w3 ⟨rfl, hb3⟩
  have hx3 : Blk w3 w.heap.size 45 #[ZI ZQ rl, ZI ZQ rm, ZI ZQ rz, ZI ZQ rv, ZI ZQ rf] := (hb3.block _ HX1.out.lt).trans HX1.out
  have HB3 := hide (bw_below' HB1.out hb3)
  have HX3 := hide hx3
  clear hb3 hx3 HB1 HX1 x0 x1 x2 x3 x4
  have x0 := HX3.out.cell 0
  have x1 := HX3.out.cell 1
  have x2 := HX3.out.cell 2
  have x3 := HX3.out.cell 3
  have x4 := HX3.out.cell 4
  go_wp2_with fail
  refine (HCR.out _).mono ?_
  rintro e4 w4 ⟨rfl, hb4⟩
  go_wp2_with fail
  exact bodyPost_ret (v := .tuple #[.slice none 0 0, .slice none 0 0, ZI ZQ 0, ZI ZQ 2]) (by simp [results, Tryz.results52, go_sem]) rfl ⟨rfl, bw_below' HB3.out hb4⟩
structure LqqAt (w W : World) (f : Ft) (s : SpSt) (r : RT) : Prop where
 sp : IsSp W f s
 box : Blk W w.heap.size 45 #[ZI ZQ r.latest, ZI ZQ r.min, ZI ZQ r.smooth, ZI ZQ r.var, ZI ZQ r.first]
 below : Below w.heap.size w W
section
variable {w W W' : World} {f : Ft} {s : SpSt} {r : RT}
theorem LqqAt.later (h : LqqAt w W f s r) (hb : Below W.heap.size W W') : LqqAt w W' f s r := ⟨h.sp.below hb, (hb.block _ h.box.lt).trans h.box, bw_below' h.below hb⟩
theorem LqqAt.seven (h : LqqAt w W f s r) : W.cell? ⟨f.b, 0, none⟩ = some (.pointer (some ⟨f.lb, 0, none⟩)) ∧ W.cell? ⟨f.b, 3, none⟩ = some (ZI ZQ s.great) ∧ W.cell? ⟨w.heap.size, 0, none⟩ = some (ZI ZQ r.latest) ∧ W.cell? ⟨w.heap.size, 1, none⟩ = some (ZI ZQ r.min) ∧ W.cell? ⟨w.heap.size, 2, none⟩ = some (ZI ZQ r.smooth) ∧ W.cell? ⟨w.heap.size, 3, none⟩ = some (ZI ZQ r.var) ∧ W.cell? ⟨w.heap.size, 4, none⟩ = some (ZI ZQ r.first) := ⟨h.sp.blk.cell 0, h.sp.blk.cell 3, h.box.cell 0, h.box.cell 1, h.box.cell 2, h.box.cell 3, h.box.cell 4⟩
end
set_option maxRecDepth 100000 in
set_option maxHeartbeats 4000000 in
theorem sploseq_ok (f : Ft) (s : SpSt) (now : Int) (r : RT) (w : World) (hrt : rtC r = true) (h : IsSp w f s) (g0 : -1 ≤ s.great) (g1 : s.great ≤ 9007199254740991) (n0 : 0 ≤ now) (n1 : now ≤ 9007199254740991) :
  Calls Tryz.prog 17 #[.pointer (some ⟨f.b, 0, none⟩), ZI ZQ now, rtV r] w
   (ToldPost w f { s with loss := atG (waitR r) s.great now (s.ps.map toPK), ps := dropL allP ((s.ps.map toPK).filter (lostG (waitR r) s.great now)) s.ps } ((s.ps.map toPK).filter (lostG (waitR r) s.great now))) := by
 have HFN := hide (fun W a n cap qs hn hl hP ha hck ht => lossfindq_ok a n cap qs s.great now r W hrt hn hl hP ha hck ht g0 g1 n0 n1)
 unfold rtV at HFN ⊢
 have hb0 : Below w.heap.size w (w.alloc (.cells #[ZI ZQ r.latest, ZI ZQ r.min, ZI ZQ r.smooth, ZI ZQ r.var, ZI ZQ r.first] 45)) := (Below.refl _ _).alloc (Nat.le_refl _) _
 have h1 : LqqAt w (w.alloc (.cells #[ZI ZQ r.latest, ZI ZQ r.min, ZI ZQ r.smooth, ZI ZQ r.var, ZI ZQ r.first] 45)) f s r := ⟨h.below hb0, Blk.new _ _ _, hb0⟩
 have HLT := hide h.lt
 have HMAY := hide h.log.may
 have HRM := hide h.log.room
 have HCK := hide (log_ok h.log)
 have HNM := hide (log_num h.log)
 obtain ⟨y0, y3, x0, x1, x2, x3, x4⟩ := h1.seven
 have HQ := hide h1
 clear h hb0 h1
 go_enter Tryz.func17, Tryz.ntmps17
 go_wp2_with fail
 refine (spnone f s _ HQ.out.sp).mono ?_
 rintro e1 w1 ⟨rfl, rfl⟩
 go_wp2_with fail
 refine wp_region_S (fun w' => w'.cell? ⟨f.b, 0, none⟩ = some (.pointer (some ⟨f.lb, 0, none⟩)) ∧ w'.cell? ⟨f.b, 3, none⟩ = some (ZI ZQ s.great) ∧ w'.cell? ⟨w.heap.size, 0, none⟩ = some (ZI ZQ r.latest) ∧ w'.cell? ⟨w.heap.size, 1, none⟩ = some (ZI ZQ r.min) ∧ w'.cell? ⟨w.heap.size, 2, none⟩ = some (ZI ZQ r.smooth) ∧ w'.cell? ⟨w.heap.size, 3, none⟩ = some (ZI ZQ r.var) ∧ w'.cell? ⟨w.heap.size, 4, none⟩ = some (ZI ZQ r.first)) 1000 (by kernel_rfl) (by exact ⟨y0, y3, x0, x1, x2, x3, x4⟩) (fun hHeld => ?_)
 refine tsP 0 ?_ rfl ?_ ?_
 rotate_left
 ·intro w hSw; (try dsimp only at hSw); go_simp; try with_reducible rfl
 try simp only [ZP, ZA, ZC, ZB, ZD, ZE, ZF]
 refine tsP 1 ?_ rfl ?_ ?_
 rotate_left
 ·intro w hSw; (try dsimp only at hSw); go_simp; try with_reducible rfl
 try simp only [ZP, ZA, ZC, ZB, ZD, ZE, ZF]
 refine tsP 2 ?_ rfl ?_ ?_
 rotate_left
 ·intro w hSw; (try dsimp only at hSw); go_simp; try with_reducible rfl
 try simp only [ZP, ZA, ZC, ZB, ZD, ZE, ZF]
 refine tsP 3 ?_ rfl ?_ ?_
 rotate_left
 ·intro w hSw; (try dsimp only at hSw); go_simp; try with_reducible rfl
 try simp only [ZP, ZA, ZC, ZB, ZD, ZE, ZF]
 refine tsP 5 ?_ rfl ?_ ?_
 rotate_left
 ·intro w hSw; (try dsimp only at hSw); go_simp; try with_reducible rfl
 try simp only [ZP, ZA, ZC, ZB, ZD, ZE, ZF]
 refine tsP 6 ?_ rfl ?_ ?_
 rotate_left
 ·intro w hSw; (try dsimp only at hSw); go_simp; try with_reducible rfl
 try simp only [ZP, ZA, ZC, ZB, ZD, ZE, ZF]
 refine tsP 7 ?_ rfl ?_ ?_
 rotate_left
 ·intro w hSw; (try dsimp only at hSw); go_simp; try with_reducible rfl
 try simp only [ZP, ZA, ZC, ZB, ZD, ZE, ZF]
 refine tsP 8 ?_ rfl ?_ ?_
 rotate_left
 ·intro w hSw; (try dsimp only at hSw); go_simp; try with_reducible rfl
 try simp only [ZP, ZA, ZC, ZB, ZD, ZE, ZF]
 refine tsP 9 ?_ rfl ?_ ?_
 rotate_left
 ·intro w hSw; (try dsimp only at hSw); go_simp; try with_reducible rfl
 try simp only [ZP, ZA, ZC, ZB, ZD, ZE, ZF]
 refine tsP 10 ?_ rfl ?_ ?_
 rotate_left
 ·intro w hSw; (try dsimp only at hSw); go_simp; try with_reducible rfl
 try simp only [ZP, ZA, ZC, ZB, ZD, ZE, ZF]
 refine wpAnyS_one (i := 4) rfl (by kernel_rfl) (fun K hK => ?_)
 go_simp; go_at_call 50; refine (all_any _ _ _ _ _ _ (LqqAt.sp (by first | exact HQ.out | exact HQ.out.later (Below.refl _ _).drew)).log).mono ?_; rintro e2 w2 ⟨v2, rfl, hv2, hb2⟩; have HQ2 := hide (LqqAt.later (by first | exact HQ.out | exact HQ.out.later (Below.refl _ _).drew) hb2); obtain ⟨a2, c2, rfl⟩ := own_slice' hv2; rw [← pkcs_toPK] at hv2; have hpk2 := own_pk3 (by simp) hv2 (fun p hp => by obtain ⟨q, hq, rfl⟩ := List.mem_map.1 hp; exact toPK_small (HMAY.out q hq)); have HP2 := hide hpk2; clear hv2 hb2 hpk2
 refine hK.out _ _ (fun _ => HQ2.out.seven) (fun hH => ?_)
 have hHeld := hH rfl
 clear hK K hH
 try simp only [ZP, ZA, ZC, ZB, ZD, ZE, ZF]
 refine wpAnyS_one (i := 11) rfl (by kernel_rfl) (fun K hK => ?_)
 go_simp; go_at_call 52; refine (HFN.out _ a2 s.ps.length c2 (s.ps.map toPK) (by simp) (by have := HRM.out; omega) (HP2.out.1.below (by first | exact Below.refl _ _ | exact (Below.refl _ _).drew) (Nat.le_refl _)) (fun k o e => (HP2.out.2.2 k o e).2) HCK.out HNM.out).mono ?_; rintro e3 w3 ⟨v3, v4, rfl, hv3, hb3⟩; have HQ3 := hide (LqqAt.later (by first | exact HQ2.out | exact HQ2.out.later (Below.refl _ _).drew) hb3); have HV3 := hide (And.intro hv3 (show w.heap.size ≤ w2.heap.size from HQ2.out.below.size)); clear hv3 hb3
 refine hK.out _ _ (fun _ => HQ3.out.seven) (fun hH => ?_)
 have hHeld := hH rfl
 clear hK K hH
 try simp only [ZP, ZA, ZC, ZB, ZD, ZE, ZF]
 refine tsP 12 ?_ rfl ?_ ?_
 rotate_left
 ·intro w hSw; (try dsimp only at hSw); go_simp; try with_reducible rfl
 try simp only [ZP, ZA, ZC, ZB, ZD, ZE, ZF]
 refine tsP 13 ?_ rfl ?_ ?_
 rotate_left
 ·intro w hSw; (try dsimp only at hSw); go_simp; try with_reducible rfl
 try simp only [ZP, ZA, ZC, ZB, ZD, ZE, ZF]
 refine tsP 14 ?_ rfl ?_ ?_
 rotate_left
 ·intro w hSw; (try dsimp only at hSw); go_simp; try with_reducible rfl
 try simp only [ZP, ZA, ZC, ZB, ZD, ZE, ZF]
 refine tsP 15 ?_ rfl ?_ ?_
 rotate_left
 ·intro w hSw; (try dsimp only at hSw); go_simp; try with_reducible rfl
 try simp only [ZP, ZA, ZC, ZB, ZD, ZE, ZF]
 refine tsP 16 ?_ rfl ?_ ?_
 rotate_left
 ·intro w hSw; (try dsimp only at hSw); go_simp; try with_reducible rfl
 try simp only [ZP, ZA, ZC, ZB, ZD, ZE, ZF]
 refine tsP 17 ?_ rfl ?_ ?_
 rotate_left
 ·intro w hSw; (try dsimp only at hSw); go_simp; try with_reducible rfl
 try simp only [ZP, ZA, ZC, ZB, ZD, ZE, ZF]
 refine tsP 18 ?_ rfl ?_ ?_
 rotate_left
 ·intro w hSw; (try dsimp only at hSw); go_simp; try with_reducible rfl
 try simp only [ZP, ZA, ZC, ZB, ZD, ZE, ZF]
 refine tsP 19 ?_ rfl ?_ ?_
 rotate_left
 ·intro w hSw; (try dsimp only at hSw); go_simp; try with_reducible rfl
 try simp only [ZP, ZA, ZC, ZB, ZD, ZE, ZF]
 refine tsP 20 ?_ rfl ?_ ?_
 rotate_left
 ·intro w hSw; (try dsimp only at hSw); go_simp; try with_reducible rfl
 try simp only [ZP, ZA, ZC, ZB, ZD, ZE, ZF]
 refine wpAnyS_done (by kernel_rfl) ?_ _
 obtain ⟨a3, c3, hv3⟩ := own_slice' HV3.out.1
 subst hv3
 have hpk3 := own_pk3 rfl HV3.out.1 (fun p hp => by
  obtain ⟨q, hq, rfl⟩ := List.mem_map.1 (List.mem_filter.1 hp).1
  exact toPK_small (HMAY.out q hq))
 have HP3 := hide hpk3
 have hl3 : ((s.ps.map toPK).filter (lostG (waitR r) s.great now)).length ≤ 256 := Nat.le_trans (List.length_filter_le _ _) (by have := HRM.out; simp; omega)
 have hw23 := HV3.out.2
 have y4 : w3.cell? ⟨f.b, 4, none⟩ = some (ZI ZQ s.loss) := HQ3.out.sp.blk.cell 4
 have f4 : w3.frozen? ⟨f.b, 4, none⟩ = false := HQ3.out.sp.blk.frozen 4
 have ht := HQ3.out.sp.turnOwn (j := 4) (u := ZI ZQ (atG (waitR r) s.great now (s.ps.map toPK))) (great := s.great) (loss := atG (waitR r) s.great now (s.ps.map toPK)) (time := s.time) rfl
 have hbn : ∀ k o, a3 = some ⟨k, o, none⟩ → k ∉ f.all := fun k o e hm => by
  have h1 := HLT.out _ hm
  have h2 := (hpk3.2.2 k o e).1
  omega
 have hpk4 : PksAt (w3.setCell ⟨f.b, 4, none⟩ (ZI ZQ (atG (waitR r) s.great now (s.ps.map toPK)))) a3 ((s.ps.map toPK).filter (lostG (waitR r) s.great now)) := hpk3.1.only ht.only hbn
 have HDR := hide (dropped_all f { s with great := s.great, loss := atG (waitR r) s.great now (s.ps.map toPK), time := s.time } a3 _ c3 _ _ ht.sp rfl hl3 ⟨hpk4, hbn⟩)
 have HT := hide ht
 have HBN := hide (And.intro hbn (show w3.heap.size ≤ w3.heap.size from Nat.le_refl _))
 obtain ⟨A, hA⟩ : ∃ A, atG (waitR r) s.great now (s.ps.map toPK) = A := ⟨_, rfl⟩
 obtain ⟨out, hout⟩ : ∃ out, (s.ps.map toPK).filter (lostG (waitR r) s.great now) = out := ⟨_, rfl⟩
 have HOUT := hide hout
 have HA := hide hA
 rw [hA] at HDR HT ⊢
 rw [hout] at HDR hl3 ⊢
 have HL3 := hide hl3
 clear hHeld y0 y3 x0 x1 x2 x3 x4 hpk3 ht hbn hpk4 hA hout hl3 HP2 HQ2 HQ HV3
 go_wp2_with fail
 refine HDR.out.mono ?_
 rintro e5 w5 ⟨v5, f5, rfl, hD⟩
 have hfa : out.filter allP = out := List.filter_eq_self.2 (fun _ _ => rfl)
 rw [hfa] at hD
 obtain ⟨a5, c5, hv5⟩ := own_slice' hD.own
 subst hv5
 obtain ⟨hp5, hc5, hk5⟩ := own_pk3 rfl hD.own (fun p hp => by
  rw [← HOUT.out] at hp
  obtain ⟨q, hq, rfl⟩ := List.mem_map.1 (List.mem_filter.1 hp).1
  exact toPK_small (HMAY.out q hq))
 have hpost := (SpPost.ahead HQ3.out.below HT.out).trans hD.post
 have hoff := hD.off
 have hz := HQ3.out.below.size
 clear hD
 go_wp2_with fail
 go_ret2
 rw [HOUT.out, HA.out]
 exact ⟨a5, c5, f5, rfl, hp5, hc5, fun k o e => by
  subst e
  have h1 := hk5 k o rfl
  rw [World.size_setCell] at h1
  exact ⟨by omega, h1.2, hoff k rfl⟩, hpost⟩
set_option maxRecDepth 100000 in
set_option maxHeartbeats 4000000 in
theorem sploseq_no (f : Ft) (s : SpSt) (now : Int) (r : RT) (w : World) (z : Int) (hz : loseE now r = z) (hz0 : z ≠ 0) (hsm : -9223372036854775808 ≤ r.smooth ∧ r.smooth ≤ 9223372036854775807) (h : IsSp w f s) (g0 : -1 ≤ s.great) (g1 : s.great ≤ 9007199254740991)  :
  Calls Tryz.prog 17 #[.pointer (some ⟨f.b, 0, none⟩), ZI ZQ now, rtV r] w
   (ToldqPost w f s [] z) := by
 have HFN := hide (fun W a n cap qs hn hl hP ha hck ht => lossfindq_no a n cap qs s.great now r W z hz hz0 hsm hn hl hP ha hck ht g0 g1)
 unfold rtV at HFN ⊢
 have hb0 : Below w.heap.size w (w.alloc (.cells #[ZI ZQ r.latest, ZI ZQ r.min, ZI ZQ r.smooth, ZI ZQ r.var, ZI ZQ r.first] 45)) := (Below.refl _ _).alloc (Nat.le_refl _) _
 have h1 : LqqAt w (w.alloc (.cells #[ZI ZQ r.latest, ZI ZQ r.min, ZI ZQ r.smooth, ZI ZQ r.var, ZI ZQ r.first] 45)) f s r := ⟨h.below hb0, Blk.new _ _ _, hb0⟩
 have HLT := hide h.lt
 have HMAY := hide h.log.may
 have HRM := hide h.log.room
 have HCK := hide (log_ok h.log)
 have HNM := hide (log_num h.log)
 obtain ⟨y0, y3, x0, x1, x2, x3, x4⟩ := h1.seven
 have HQ := hide h1
 have HSP := hide h
 clear h hb0 h1
 go_enter Tryz.func17, Tryz.ntmps17
 go_wp2_with fail
 refine (spnone f s _ HQ.out.sp).mono ?_
 rintro e1 w1 ⟨rfl, rfl⟩
 go_wp2_with fail
 refine wp_region_S (fun w' => w'.cell? ⟨f.b, 0, none⟩ = some (.pointer (some ⟨f.lb, 0, none⟩)) ∧ w'.cell? ⟨f.b, 3, none⟩ = some (ZI ZQ s.great) ∧ w'.cell? ⟨w.heap.size, 0, none⟩ = some (ZI ZQ r.latest) ∧ w'.cell? ⟨w.heap.size, 1, none⟩ = some (ZI ZQ r.min) ∧ w'.cell? ⟨w.heap.size, 2, none⟩ = some (ZI ZQ r.smooth) ∧ w'.cell? ⟨w.heap.size, 3, none⟩ = some (ZI ZQ r.var) ∧ w'.cell? ⟨w.heap.size, 4, none⟩ = some (ZI ZQ r.first)) 1000 (by kernel_rfl) (by exact ⟨y0, y3, x0, x1, x2, x3, x4⟩) (fun hHeld => ?_)
 refine tsP 0 ?_ rfl ?_ ?_
 rotate_left
 ·intro w hSw; (try dsimp only at hSw); go_simp; try with_reducible rfl
 try simp only [ZP, ZA, ZC, ZB, ZD, ZE, ZF]
 refine tsP 1 ?_ rfl ?_ ?_
 rotate_left
 ·intro w hSw; (try dsimp only at hSw); go_simp; try with_reducible rfl
 try simp only [ZP, ZA, ZC, ZB, ZD, ZE, ZF]
 refine tsP 2 ?_ rfl ?_ ?_
 rotate_left
 ·intro w hSw; (try dsimp only at hSw); go_simp; try with_reducible rfl
 try simp only [ZP, ZA, ZC, ZB, ZD, ZE, ZF]
 refine tsP 3 ?_ rfl ?_ ?_
 rotate_left
 ·intro w hSw; (try dsimp only at hSw); go_simp; try with_reducible rfl
 try simp only [ZP, ZA, ZC, ZB, ZD, ZE, ZF]
 refine tsP 5 ?_ rfl ?_ ?_
 rotate_left
 ·intro w hSw; (try dsimp only at hSw); go_simp; try with_reducible rfl
 try simp only [ZP, ZA, ZC, ZB, ZD, ZE, ZF]
 refine tsP 6 ?_ rfl ?_ ?_
 rotate_left
 ·intro w hSw; (try dsimp only at hSw); go_simp; try with_reducible rfl
 try simp only [ZP, ZA, ZC, ZB, ZD, ZE, ZF]
 refine tsP 7 ?_ rfl ?_ ?_
 rotate_left
 ·intro w hSw; (try dsimp only at hSw); go_simp; try with_reducible rfl
 try simp only [ZP, ZA, ZC, ZB, ZD, ZE, ZF]
 refine tsP 8 ?_ rfl ?_ ?_
 rotate_left
 ·intro w hSw; (try dsimp only at hSw); go_simp; try with_reducible rfl
 try simp only [ZP, ZA, ZC, ZB, ZD, ZE, ZF]
 refine tsP 9 ?_ rfl ?_ ?_
 rotate_left
 ·intro w hSw; (try dsimp only at hSw); go_simp; try with_reducible rfl
 try simp only [ZP, ZA, ZC, ZB, ZD, ZE, ZF]
 refine tsP 10 ?_ rfl ?_ ?_
 rotate_left
 ·intro w hSw; (try dsimp only at hSw); go_simp; try with_reducible rfl
 try simp only [ZP, ZA, ZC, ZB, ZD, ZE, ZF]
 refine wpAnyS_one (i := 4) rfl (by kernel_rfl) (fun K hK => ?_)
 go_simp; go_at_call 50; refine (all_any _ _ _ _ _ _ (LqqAt.sp (by first | exact HQ.out | exact HQ.out.later (Below.refl _ _).drew)).log).mono ?_; rintro e2 w2 ⟨v2, rfl, hv2, hb2⟩; have HQ2 := hide (LqqAt.later (by first | exact HQ.out | exact HQ.out.later (Below.refl _ _).drew) hb2); obtain ⟨a2, c2, rfl⟩ := own_slice' hv2; rw [← pkcs_toPK] at hv2; have hpk2 := own_pk3 (by simp) hv2 (fun p hp => by obtain ⟨q, hq, rfl⟩ := List.mem_map.1 hp; exact toPK_small (HMAY.out q hq)); have HP2 := hide hpk2; clear hv2 hb2 hpk2
 refine hK.out _ _ (fun _ => HQ2.out.seven) (fun hH => ?_)
 have hHeld := hH rfl
 clear hK K hH
 try simp only [ZP, ZA, ZC, ZB, ZD, ZE, ZF]
 refine wpAnyS_one (i := 11) rfl (by kernel_rfl) (fun K hK => ?_)
 go_simp; go_at_call 52; refine (HFN.out _ a2 s.ps.length c2 (s.ps.map toPK) (by simp) (by have := HRM.out; omega) (HP2.out.1.below (by first | exact Below.refl _ _ | exact (Below.refl _ _).drew) (Nat.le_refl _)) (fun k o e => (HP2.out.2.2 k o e).2) HCK.out HNM.out).mono ?_; rintro e3 w3 ⟨rfl, hb3⟩; have HQ3 := hide (LqqAt.later (by first | exact HQ2.out | exact HQ2.out.later (Below.refl _ _).drew) hb3)
 refine hK.out _ _ (fun _ => HQ3.out.seven) (fun hH => ?_)
 have hHeld := hH rfl
 clear hK K hH
 try simp only [ZP, ZA, ZC, ZB, ZD, ZE, ZF]
 refine tsP 12 ?_ rfl ?_ ?_
 rotate_left
 ·intro w hSw; (try dsimp only at hSw); go_simp; try with_reducible rfl
 try simp only [ZP, ZA, ZC, ZB, ZD, ZE, ZF]
 refine tsP 13 ?_ rfl ?_ ?_
 rotate_left
 ·intro w hSw; (try dsimp only at hSw); go_simp; try with_reducible rfl
 try simp only [ZP, ZA, ZC, ZB, ZD, ZE, ZF]
 refine tsP 14 ?_ rfl ?_ ?_
 rotate_left
 ·intro w hSw; (try dsimp only at hSw); go_simp; try with_reducible rfl
 try simp only [ZP, ZA, ZC, ZB, ZD, ZE, ZF]
 refine tsP 15 ?_ rfl ?_ ?_
 rotate_left
 ·intro w hSw; (try dsimp only at hSw); go_simp; try with_reducible rfl
 try simp only [ZP, ZA, ZC, ZB, ZD, ZE, ZF]
 refine tsP 16 ?_ rfl ?_ ?_
 rotate_left
 ·intro w hSw; (try dsimp only at hSw); go_simp; try with_reducible rfl
 try simp only [ZP, ZA, ZC, ZB, ZD, ZE, ZF]
 refine tsP 17 ?_ rfl ?_ ?_
 rotate_left
 ·intro w hSw; (try dsimp only at hSw); go_simp; try with_reducible rfl
 try simp only [ZP, ZA, ZC, ZB, ZD, ZE, ZF]
 refine tsP 18 ?_ rfl ?_ ?_
 rotate_left
 ·intro w hSw; (try dsimp only at hSw); go_simp; try with_reducible rfl
 try simp only [ZP, ZA, ZC, ZB, ZD, ZE, ZF]
 refine tsP 19 ?_ rfl ?_ ?_
 rotate_left
 ·intro w hSw; (try dsimp only at hSw); go_simp; try with_reducible rfl
 try simp only [ZP, ZA, ZC, ZB, ZD, ZE, ZF]
 refine tsP 20 ?_ rfl ?_ ?_
 rotate_left
 ·intro w hSw; (try dsimp only at hSw); go_simp; try with_reducible rfl
 try simp only [ZP, ZA, ZC, ZB, ZD, ZE, ZF]
 refine wpAnyS_done (by kernel_rfl) ?_ _
 have HFIN := hide (toldq_stay (z := z) HSP.out HQ3.out.below)
 clear hHeld y0 y3 x0 x1 x2 x3 x4 HP2 HQ2 HQ
 go_wp2_with fail
 first
 | (go_ret2; exact HFIN.out)
 | exact HFIN.out
/-- What Lose tells, and what it leaves. -/
def loseS (s : SpSt) (now : Int) (r : RT) : SpSt := if loseE now r = 0 then { s with loss := atG (waitR r) s.great now (s.ps.map toPK), ps := dropL allP ((s.ps.map toPK).filter (lostG (waitR r) s.great now)) s.ps } else s
def loseL (s : SpSt) (now : Int) (r : RT) : List PK := if loseE now r = 0 then (s.ps.map toPK).filter (lostG (waitR r) s.great now) else []
theorem sploseq_any (f : Ft) (s : SpSt) (now : Int) (r : RT) (w : World) (h : IsSp w f s) (g0 : -1 ≤ s.great) (g1 : s.great ≤ 9007199254740991) (hsm : -9223372036854775808 ≤ r.smooth ∧ r.smooth ≤ 9223372036854775807) :
  Calls Tryz.prog 17 #[.pointer (some ⟨f.b, 0, none⟩), ZI ZQ now, rtV r] w (ToldqPost w f (loseS s now r) (loseL s now r) (loseE now r)) := by
 by_cases hz : loseE now r = 0
 ·have h1 : isT now = true := by
   cases e : isT now with
   | true => rfl
   | false => unfold loseE at hz; rw [e] at hz; cases hz
  have h2 : rtC r = true := by
   cases e : rtC r with
   | true => rfl
   | false => unfold loseE at hz; rw [h1, e] at hz; cases hz
  have hb := isT_iff.1 h1
  unfold loseS loseL
  rw [if_pos hz, if_pos hz, hz]
  exact sploseq_ok f s now r w h2 h g0 g1 hb.1 hb.2
 ·unfold loseS loseL
  rw [if_neg hz, if_neg hz]
  exact sploseq_no f s now r w _ rfl hz hsm h g0 g1
end Go.Proofs.YtgicljeedegncaaGreat
