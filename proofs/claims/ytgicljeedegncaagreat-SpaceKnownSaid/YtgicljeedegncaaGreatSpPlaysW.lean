/-
 SpacePlays: its walk. Printed by wip/genspplays.py.
-/
import Derived.Test.YtgicljeedegncaaGreatTqSpPlaysC
namespace Go.Proofs.YtgicljeedegncaaGreat
open List renaming getElem?_toArray → ZG, getElem?_cons_zero → ZH, getElem?_cons_succ → ZJ
open Go.Value renaming int → ZI
open Go.IntKind renaming i64 → ZQ
set_option linter.unusedSimpArgs false
set_option linter.unusedVariables false
open Go.RowKit

set_option maxRecDepth 100000 in
set_option maxHeartbeats 8000000 in
theorem spplays_any (room : Int) (a : Option Addr) (n c : Nat) (xs : List DO) (w : World) (hr : -9223372036854775808 ≤ room ∧ room ≤ 9223372036854775807) (hn : xs.length = n) (hD : DosAt w a xs) :
  Calls Tryz.prog 8 #[ZI ZQ room, .slice a n c] w fun e w' => e = .returned (.bool true) ∧ Below w.heap.size w w' := by
 have HD := hide hD
 have HN := hide hn
 clear hD hn
 by_cases hroom : room < 1 ∨ 256 < room
 ·have HO := hide hroom
  clear hroom
  go_enter Tryz.func8, Tryz.ntmps8
  go_wp2_with fail
  refine (spnew_no _ _ HO.out).mono ?_
  rintro e1 w1 ⟨rfl, hb1⟩
  go_wp2_with fail
  refine (r17new_no _ _ HO.out).mono ?_
  rintro e2 w2 ⟨rfl, hb2⟩
  have HB2 := hide (bw_below' hb1 hb2)
  clear hb1 hb2
  go_wp2_with fail
  refine (works17_any _).mono ?_
  rintro e3 w3 ⟨rfl, hb3⟩
  have HB3 := hide (bw_below' HB2.out hb3)
  clear hb3
  go_wp2_with fail
  first
  | exact ⟨rfl, HB3.out⟩
  | (go_ret; exact ⟨rfl, HB3.out⟩)
 ·obtain ⟨R, rfl⟩ : ∃ R : Nat, room = (R : Int) := ⟨room.toNat, by omega⟩
  have h1 : 1 ≤ R := by omega
  have h2 : R ≤ 256 := by omega
  clear hroom hr
  go_enter Tryz.func8, Tryz.ntmps8
  go_wp2_with fail
  refine (spnew_ok R _ h1 h2).mono ?_
  rintro e1 w1 ⟨f, rfl, hs1, hl1, hb1⟩
  go_wp2_with fail
  refine (r17new_ok R _ h1 h2).mono ?_
  rintro e2 w2 ⟨d, rfl, hs2, hl2, hb2⟩
  have HB2 := hide (bw_below' hb1 hb2)
  have HDU : Hid (DuoL w.heap.size w2 f d ⟨R, -1, [], [], [], -1, -1, -1⟩) := ⟨⟨hs1.below hb2, hs2, fun x hx hm => by have h3 := hs1.lt x hx; have h4 := hl2 x hm; omega⟩, hl1, fun x hx => Nat.le_trans hb1.size (hl2 x hx), by unfold GrOk; dsimp only; omega⟩
  clear hs1 hl1 hb1 hs2 hl2 hb2
  go_wp2_with fail
  go_loopg [5, 7, 9] 70 (fun kx s5 s7 s9 wr => ∃ (i : Nat) (f : Ft) (d : Dt) (s : SpSt), s5 = .pointer (some ⟨f.b, 0, none⟩) ∧ s7 = .pointer (some ⟨d.m, 0, none⟩) ∧ s9 = ZI ZQ i ∧ i ≤ n ∧ i ≤ 70 ∧ 70 - i ≤ kx ∧ DuoL w.heap.size wr f d s ∧ Below w.heap.size w wr)
  case atStart => exact ⟨0, f, d, _, rfl, rfl, rfl, by omega, by omega, by omega, HDU.out, HB2.out⟩
  case round =>
   clear HDU HB2 h1 h2
   obtain ⟨i, f3, d3, s, rfl, rfl, rfl, hi, hi7, hkx, hdu, hbr⟩ := hrel
   have HDU := hide hdu
   have HBR := hide hbr
   clear hdu hbr
   by_cases hlt : i < n ∧ i < 70
   ·obtain ⟨hlt, hlt7⟩ := hlt
    have hin : (i : Int) < (n : Int) := by omega
    have hi70 : (i : Int) < 70 := by omega
    have hi0 : (0 : Int) ≤ (i : Int) := by omega
    obtain ⟨x, hx⟩ : ∃ x, xs[i]? = some x := ⟨_, List.getElem?_eq_getElem (by rw [HN.out]; exact hlt)⟩
    obtain ⟨hok, k, o, rfl, hk, hc⟩ := HD.out i x hx
    have HOK := hide hok
    have HC : Hid (∀ (j : Nat) (v : Value), x.cells[j]? = some v → wr.cell? ((⟨k, o + i * 19, none⟩ : Addr).add j) = some v) := fun j v hj => by
     have h1 := (HBR.out.cell (p := ⟨k, o + (i * 19 + j), none⟩) hk).trans (hc j v hj)
     rw [do_add, Nat.add_assoc]
     exact h1
    have HA := hide (Blk.new wr 67 #[ZI ZQ 0, ZI ZQ 0, ZI ZQ 0, ZI ZQ 0, ZI ZQ 0, .bool false, .bool false, .bool false, ZI ZQ 0, .slice none 0 0, .bool false, ZI ZQ 0, ZI ZQ 0, ZI ZQ 0, ZI ZQ 0, ZI ZQ 0, ZI ZQ 0, ZI ZQ 0, ZI ZQ 0])
    have hone : x.cells.all (·.oneCell') = true := by simp [DO.cells, doC, Value.oneCell']
    have HONE := hide hone
    have do_size : (Tryz.prog.info? 67).map (·.size) = some x.cells.size := by rw [DO.size]; kernel_rfl
    have HDS := hide do_size
    clear hok hc hx hone do_size
    go_upto_region 11 with (first
     | (refine wpList_load_at rfl 67 (.tmp 51) rfl ⟨k, o + i * 19, none⟩ rfl x.cells _ HC.out Tryz.underlying67 rfl HDS.out ?_)
     | (refine wpList_store_row rfl 67 (.tmp 10) (.tmp 52) rfl wr.heap.size x.cells rfl rfl 67 #[ZI ZQ 0, ZI ZQ 0, ZI ZQ 0, ZI ZQ 0, ZI ZQ 0, .bool false, .bool false, .bool false, ZI ZQ 0, .slice none 0 0, .bool false, ZI ZQ 0, ZI ZQ 0, ZI ZQ 0, ZI ZQ 0, ZI ZQ 0, ZI ZQ 0, ZI ZQ 0, ZI ZQ 0] HA.out HDS.out rfl HONE.out ?_))
    obtain ⟨W1, hW1⟩ : ∃ W, (wr.alloc (.cells #[ZI ZQ 0, ZI ZQ 0, ZI ZQ 0, ZI ZQ 0, ZI ZQ 0, .bool false, .bool false, .bool false, ZI ZQ 0, .slice none 0 0, .bool false, ZI ZQ 0, ZI ZQ 0, ZI ZQ 0, ZI ZQ 0, ZI ZQ 0, ZI ZQ 0, ZI ZQ 0, ZI ZQ 0] 67)).setRow wr.heap.size x.cells = W := ⟨_, rfl⟩
    have hb1 := row_new wr 67 #[ZI ZQ 0, ZI ZQ 0, ZI ZQ 0, ZI ZQ 0, ZI ZQ 0, .bool false, .bool false, .bool false, ZI ZQ 0, .slice none 0 0, .bool false, ZI ZQ 0, ZI ZQ 0, ZI ZQ 0, ZI ZQ 0, ZI ZQ 0, ZI ZQ 0, ZI ZQ 0, ZI ZQ 0] x.cells
    have hx1 : Blk ((wr.alloc (.cells #[ZI ZQ 0, ZI ZQ 0, ZI ZQ 0, ZI ZQ 0, ZI ZQ 0, .bool false, .bool false, .bool false, ZI ZQ 0, .slice none 0 0, .bool false, ZI ZQ 0, ZI ZQ 0, ZI ZQ 0, ZI ZQ 0, ZI ZQ 0, ZI ZQ 0, ZI ZQ 0, ZI ZQ 0] 67)).setRow wr.heap.size x.cells) wr.heap.size 67 x.cells := blk_setRow HA.out
    rw [hW1] at hb1 hx1 ⊢
    obtain ⟨X, hX⟩ : ∃ X, wr.heap.size = X := ⟨_, rfl⟩
    have hnX : w.heap.size ≤ X := by have := HBR.out.size; omega
    have hX1 : X < W1.heap.size := by have := hx1.lt; omega
    rw [hX] at hx1 ⊢
    have HCP := hide (r05copy_any x.ak x.a x.c W1 HOK.out.len (reads_below HOK.out.reads (Nat.le_refl _) (bw_below' HBR.out hb1) (by have := (bw_below' HBR.out hb1).size; exact this)))
    have HX1 := hide hx1
    have HB1 := hide hb1
    have HXX := hide hX
    have HDSZ : Hid (∀ (j : Nat), (Tryz.prog.info? 67).map (·.size) = some 19) := fun _ => HDS.out
    clear hX hb1 hW1 HA HC HDS HONE
    obtain ⟨kd, nw, p, ak, xa, xc, r⟩ := x
    unfold DO.cells doC at hx1
    unfold akC at HCP
    dsimp only at hx1 HCP
    have y8 := hx1.cell 8
    have y9 := hx1.cell 9
    have y10 := hx1.cell 10
    have y11 := hx1.cell 11
    have y12 := hx1.cell 12
    have y13 := hx1.cell 13
    clear hx1
    go_upto_region 12 with (fail)
    refine HCP.out.mono ?_
    rintro e2 w2 ⟨a2, c2, rfl, hR2, hc2, hk2, hb2⟩
    have HB2 := hide hb2
    have hX2 : Blk w2 X 67 (DO.cells ⟨kd, nw, p, ak, xa, xc, r⟩) := (hb2.block _ HX1.out.lt).trans HX1.out
    have HX2 := hide hX2
    unfold DO.cells doC at hX2
    dsimp only at hX2
    have z8 := hX2.cell 8
    have z9 := hX2.cell 9
    have z10 := hX2.cell 10
    have z11 := hX2.cell 11
    have z12 := hX2.cell 12
    have z13 := hX2.cell 13
    simp only [ZG, ZH, ZJ] at z8 z9 z10 z11 z12 z13
    have f8 := hX2.frozen 8
    have f9 := hX2.frozen 9
    have f10 := hX2.frozen 10
    have f11 := hX2.frozen 11
    have f12 := hX2.frozen 12
    have f13 := hX2.frozen 13
    unfold akC
    clear HCP y8 y9 y10 y11 y12 y13 HX1 hX2
    go_upto_region 12 with (fail)
    obtain ⟨W3, hW3⟩ : ∃ W, ((((((w2.setCell ⟨X, 8, none⟩ (ZI ZQ ak.delay)).setCell ⟨X, 9, none⟩ (.slice a2 ak.rs.length c2)).setCell ⟨X, 10, none⟩ (.bool ak.marked)).setCell ⟨X, 11, none⟩ (ZI ZQ ak.e0)).setCell ⟨X, 12, none⟩ (ZI ZQ ak.e1)).setCell ⟨X, 13, none⟩ (ZI ZQ ak.e2)) = W := ⟨_, rfl⟩
    have hx3 : Blk W3 X 67 (doC kd nw p ak a2 ak.rs.length c2 r) := by
     rw [← hW3]
     exact ((((((HX2.out.set 8 _).set 9 _).set 10 _).set 11 _).set 12 _).set 13 _).eq (by simp [DO.cells, doC])
    have ho3 : Only [X] w2 W3 := by
     rw [← hW3]
     exact ((((((Only.refl [X] w2).setCell (.inl (by simp)) _).setCell (.inl (by simp)) _).setCell (.inl (by simp)) _).setCell (.inl (by simp)) _).setCell (.inl (by simp)) _).setCell (.inl (by simp)) _
    rw [hW3]
    have hr3 : RgAt W3 a2 ak.rs := hR2.only ho3 (fun k e hm => by have := (hk2 k e).1; simp at hm; omega)
    have hs3 := ho3.size
    have hb13 : Below W1.heap.size W1 W3 → True := fun _ => trivial
    have HB13 : Hid (Below w.heap.size w W3) := by
     have h1 := bw_below' (bw_below' HBR.out HB1.out) HB2.out
     exact h1.trans (ho3.below (by simpa using hnX) h1.size)
    have HB0 : Hid (Below X wr W3) := by
     have h0 := HXX.out
     have h1 := bw_below' HB1.out HB2.out
     rw [h0] at h1
     exact h1.trans (ho3.below (by simp) (by have := h1.size; omega))
    have HA2 : Hid (∀ k, a2 = some ⟨k, 0, none⟩ → X < k ∧ k < W3.heap.size) := fun k e => by have := hk2 k e; omega
    have HX3 := hide hx3
    have HR3 := hide hr3
    clear hb13 hW3 hR2 hk2 hs3 ho3 z8 z9 z10 z11 z12 z13 f8 f9 f10 f11 f12 f13 HB2 HX2 HB1 hr3 hX1
    obtain ⟨la, hla⟩ : ∃ x, ak.rs.length = x := ⟨_, rfl⟩
    rw [hla] at hx3 hc2 HX3 ⊢
    have HLA := hide hla
    have hlm : la ≤ 9223372036854775807 := by have := HOK.out.len; dsimp only at this; omega
    obtain ⟨N, hNi, hN0, hN1⟩ : ∃ L : Nat, (if (40 : Int) < (la : Int) then (40 : Int) else (la : Int)) = (L : Int) ∧ L ≤ la ∧ L ≤ 40 := ⟨min la 40, by split <;> omega, by omega, by omega⟩
    have hNm : min (la : Int) 40 = (N : Int) := by rw [← hNi]; split <;> omega
    have hNt : (min (la : Int) 40).toNat = N := by rw [hNm]; rfl
    have hNx : N = min la 40 := by split at hNi <;> omega
    have HNX := hide hNx
    have hNc : N ≤ c2 := by omega
    clear hla hNx
    unfold doC at hx3
    have y9 := hx3.cell 9
    simp only [ZG, ZH, ZJ] at y9
    have f9 := hx3.frozen 9
    clear hx3
    go_upto_region 13 with (fail)
    obtain ⟨W4, hW4⟩ : ∃ W, W3.setCell ⟨X, 9, none⟩ (.slice a2 N c2) = W := ⟨_, rfl⟩
    have hx4 : Blk W4 X 67 (doC kd nw p ak a2 N c2 r) := by
     rw [← hW4]
     exact (HX3.out.set 9 _).eq (by simp [doC])
    have ho4 : Only [X] W3 W4 := by
     rw [← hW4]
     exact (Only.refl [X] W3).setCell (.inl (by simp)) _
    rw [hW4]
    have hr4 : RgAt W4 a2 (ak.rs.take 40) := fun j q hj => (HR3.out.only ho4 (fun k e hm => by have := (HA2.out k e).1; simp at hm; omega)) j q (by
     rw [List.getElem?_take] at hj
     split at hj
     ·exact hj
     ·cases hj)
    have hlt4 : (ak.rs.take 40).length = N := by rw [List.length_take, HLA.out, HNX.out]; omega
    have hs4 := ho4.size
    have HB14 : Hid (Below w.heap.size w W4) := HB13.out.trans (ho4.below (by simpa using hnX) (by have := HB13.out.size; omega))
    have HB04 : Hid (Below X wr W4) := HB0.out.trans (ho4.below (by simp) (by have h0 := HXX.out; have := HB0.out.size; omega))
    have HDU4 : Hid (DuoL w.heap.size W4 f3 d3 s) := HDU.out.below (by have h0 := HXX.out; have h1 := HB04.out; rw [h0]; exact h1)
    have hlf := HDU.out.duo.sp.lt
    have hld := HDU.out.duo.rs.lt
    have HRD : Hid (RdAt W4 f3 d3 X (doC kd nw p ak a2 N c2 r) a2 (ak.rs.take 40)) := by
     have h0 := HXX.out
     exact ⟨hx4, hr4, fun hm => by have := hlf _ hm; omega, fun hm => by have := hld _ (.inl hm); omega, fun k e hm => by have := hlf _ hm; have := (HA2.out k e).1; omega, fun k e hm => by have := hld _ (.inl hm); have := (HA2.out k e).1; omega, fun k e => by have := (HA2.out k e).2; omega⟩
    obtain ⟨ak4, hak⟩ : ∃ y : AK, ({ ak with rs := ak.rs.take 40 } : AK) = y := ⟨_, rfl⟩
    have hak0 : ak4.rs = ak.rs.take 40 := by rw [← hak]
    have HAK : Hid (akC ak4 a2 ak4.rs.length c2 = #[ZI ZQ ak.delay, .slice a2 N c2, .bool ak.marked, ZI ZQ ak.e0, ZI ZQ ak.e1, ZI ZQ ak.e2]) := by
     rw [← hak]
     unfold akC
     dsimp only
     rw [hlt4]
     exact hide rfl
    have HAL : Hid (ak4.rs.length = N) := by rw [hak0]; exact hlt4
    rw [← hak0] at HRD
    clear hW4 hr4 hlt4 hs4 ho4 hlf hld hak hak0 HB13 HB0 HX3 HR3 HA2 HDU HBR HLA HNX f9 y9 hNi hNm hNt hNc hlm
    unfold doC at hx4
    have y0 := hx4.cell 0
    simp only [ZG, ZH, ZJ] at y0
    clear hx4
    have k0 := HOK.out.k0
    have k1 := HOK.out.k1
    dsimp only at k0 k1
    go_upto_region 14 with (fail)
    (first | go_values | go_skip | go_guarded | go_step | go_upon | go_back | go_simp)
    (first | go_values | go_skip | go_guarded | go_step | go_upon | go_back | go_simp)
    (first | go_values | go_skip | go_guarded | go_step | go_upon | go_back | go_simp)
    (first | go_values | go_skip | go_guarded | go_step | go_upon | go_back | go_simp)
    (first | go_values | go_skip | go_guarded | go_step | go_upon | go_back | go_simp)
    (first | go_values | go_skip | go_guarded | go_step | go_upon | go_back | go_simp)
    (first | go_values | go_skip | go_guarded | go_step | go_upon | go_back | go_simp)
    (first | go_values | go_skip | go_guarded | go_step | go_upon | go_back | go_simp)
    (first | go_values | go_skip | go_guarded | go_step | go_upon | go_back | go_simp)
    (first | go_values | go_skip | go_guarded | go_step | go_upon | go_back | go_simp)
    (first | go_values | go_skip | go_guarded | go_step | go_upon | go_back | go_simp)
    have HMAY := hide HDU4.out.duo.sp.log.may
    have HRM := hide (show s.ps.length ≤ 256 by have := HDU4.out.duo.sp.log.room; omega)
    have HCK := hide (log_ok HDU4.out.duo.sp.log)
    have HGR := hide HDU4.out.gr
    have HSM : Hid (-9223372036854775808 ≤ r.smooth ∧ r.smooth ≤ 9223372036854775807) := ⟨HOK.out.s0, HOK.out.s1⟩
    obtain ⟨mc, hmc⟩ := mayC_all s p HDU4.out.duo.sp.log.room.1
    have HM := hide hmc
    clear hmc
    go_cut [5, 7, 11, 12, 13, 14, 15] from 39 to 148 (fun s5 s7 s11 s12 s13 s14 s15 wx => ∃ (f4 : Ft) (d4 : Dt) (s4 : SpSt) (a1 b1 : Option Addr) (m1 c1 e1 : Nat) (qs : List PK) (g : Int), s5 = .pointer (some ⟨f4.b, 0, none⟩) ∧ s7 = .pointer (some ⟨d4.m, 0, none⟩) ∧ s11 = .slice a1 m1 c1 ∧ s12 = .slice b1 m1 e1 ∧ s13 = ZI ZQ g ∧ s14 = ZI ZQ g ∧ qs.length = m1 ∧ qs.length ≤ 1000 ∧ EndR w.heap.size wx f4 d4 s4 X (doC kd nw p ak a2 N c2 r) a1 b1 qs ∧ Below w.heap.size w wx)
    case first =>
     have hbx := HRD.out.box
     have y1 := hbx.cell 1
     have y2 := hbx.cell 2
     have y3 := hbx.cell 3
     have y4 := hbx.cell 4
     have y5 := hbx.cell 5
     have y6 := hbx.cell 6
     have y7 := hbx.cell 7
     have y8 := hbx.cell 8
     have y9 := hbx.cell 9
     have y10 := hbx.cell 10
     have y11 := hbx.cell 11
     have y12 := hbx.cell 12
     have y13 := hbx.cell 13
     have y14 := hbx.cell 14
     have y15 := hbx.cell 15
     have y16 := hbx.cell 16
     have y17 := hbx.cell 17
     have y18 := hbx.cell 18
     simp only [doC, ZG, ZH, ZJ] at y1 y2 y3 y4 y5 y6 y7 y8 y9 y10 y11 y12 y13 y14 y15 y16 y17 y18
     clear hbx
     go_wp2_with fail
     refine (bring_any kd 8 _ (by omega) (by omega) k0 k1).mono ?_
     rintro e5 w5 ⟨rfl, rfl⟩
     have b0 := Int.emod_nonneg kd (show (8 : Int) ≠ 0 by omega)
     have b1 := Int.emod_lt_of_pos kd (show (0 : Int) < 8 by omega)
     obtain ⟨q, hq⟩ : ∃ q, kd % 8 = q := ⟨_, rfl⟩
     rw [hq] at b0 b1 ⊢
     clear hq k0 k1
     rcases (by omega : q = 0 ∨ q = 1 ∨ q = 2 ∨ q = 3 ∨ q = 4 ∨ q = 5 ∨ q = 6 ∨ q = 7) with rfl | rfl | rfl | rfl | rfl | rfl | rfl | rfl
     ·go_wp2_with fail
      refine (spsent_mid HDU4.out HRD.out HB14.out.size HM.out).mono ?_
      rintro e6 w6 ⟨rfl, f6, hf6, hm6, hb6⟩
      have HFB := hide hf6
      have HM6 := hide hm6
      have HB6 := hide (HB14.out.trans hb6)
      have t2 := (hm6.rd.box.cell 2)
      have t3 := (hm6.rd.box.cell 3)
      have t4 := (hm6.rd.box.cell 4)
      have t5 := (hm6.rd.box.cell 5)
      have t6 := (hm6.rd.box.cell 6)
      have t7 := (hm6.rd.box.cell 7)
      simp only [doC, ZG, ZH, ZJ] at t2 t3 t4 t5 t6 t7
      clear hf6 hm6 hb6 y2 y3 y4 y5 y6 y7
      go_wp2_with fail
      refine (r17sent_end HM6.out HB6.out.size HM.out).mono ?_
      rintro e7 w7 ⟨rfl, d7, hd7, he7, hb7⟩
      have HDM := hide hd7
      have HEND := hide he7
      have HBL := hide (HB6.out.trans hb7)
      clear hd7 he7 hb7 t2 t3 t4 t5 t6 t7
      go_wp2_with fail
      go_meet
      case rel => exact ⟨f6, d7, _, none, none, 0, 0, 0, [], mc, by rw [HFB.out], by rw [HDM.out], rfl, rfl, rfl, rfl, rfl, by simp, HEND.out, HBL.out⟩
     ·go_wp2_with fail
      refine (spsent_mid HDU4.out HRD.out HB14.out.size HM.out).mono ?_
      rintro e6 w6 ⟨rfl, f6, hf6, hm6, hb6⟩
      have HFB := hide hf6
      have HM6 := hide hm6
      have HB6 := hide (HB14.out.trans hb6)
      have t2 := (hm6.rd.box.cell 2)
      have t3 := (hm6.rd.box.cell 3)
      have t4 := (hm6.rd.box.cell 4)
      have t5 := (hm6.rd.box.cell 5)
      have t6 := (hm6.rd.box.cell 6)
      have t7 := (hm6.rd.box.cell 7)
      simp only [doC, ZG, ZH, ZJ] at t2 t3 t4 t5 t6 t7
      clear hf6 hm6 hb6 y2 y3 y4 y5 y6 y7
      go_wp2_with fail
      refine (r17sent_end HM6.out HB6.out.size HM.out).mono ?_
      rintro e7 w7 ⟨rfl, d7, hd7, he7, hb7⟩
      have HDM := hide hd7
      have HEND := hide he7
      have HBL := hide (HB6.out.trans hb7)
      clear hd7 he7 hb7 t2 t3 t4 t5 t6 t7
      go_wp2_with fail
      go_meet
      case rel => exact ⟨f6, d7, _, none, none, 0, 0, 0, [], mc, by rw [HFB.out], by rw [HDM.out], rfl, rfl, rfl, rfl, rfl, by simp, HEND.out, HBL.out⟩
     ·go_wp2_with fail
      refine (spsent_mid HDU4.out HRD.out HB14.out.size HM.out).mono ?_
      rintro e6 w6 ⟨rfl, f6, hf6, hm6, hb6⟩
      have HFB := hide hf6
      have HM6 := hide hm6
      have HB6 := hide (HB14.out.trans hb6)
      have t2 := (hm6.rd.box.cell 2)
      have t3 := (hm6.rd.box.cell 3)
      have t4 := (hm6.rd.box.cell 4)
      have t5 := (hm6.rd.box.cell 5)
      have t6 := (hm6.rd.box.cell 6)
      have t7 := (hm6.rd.box.cell 7)
      simp only [doC, ZG, ZH, ZJ] at t2 t3 t4 t5 t6 t7
      clear hf6 hm6 hb6 y2 y3 y4 y5 y6 y7
      go_wp2_with fail
      refine (r17sent_end HM6.out HB6.out.size HM.out).mono ?_
      rintro e7 w7 ⟨rfl, d7, hd7, he7, hb7⟩
      have HDM := hide hd7
      have HEND := hide he7
      have HBL := hide (HB6.out.trans hb7)
      clear hd7 he7 hb7 t2 t3 t4 t5 t6 t7
      go_wp2_with fail
      go_meet
      case rel => exact ⟨f6, d7, _, none, none, 0, 0, 0, [], mc, by rw [HFB.out], by rw [HDM.out], rfl, rfl, rfl, rfl, rfl, by simp, HEND.out, HBL.out⟩
     ·have HAKM := hide (spack_mid (ak := ak4) a2 c2 HDU4.out HRD.out HB14.out.size)
      rw [HAK.out] at HAKM
      go_wp2_with fail
      refine HAKM.out.mono ?_
      rintro e6 w6 ⟨a6, c6, f6, rfl, hf6, hm6, hb6⟩
      have HFB := hide hf6
      have HB6 := hide (HB14.out.trans hb6)
      have HAKE := hide (r17ack_end (ak := ak4) a2 c2 hm6 HB6.out.size (by rw [HAL.out]; omega) HMAY.out HRM.out)
      rw [HAK.out] at HAKE
      have t8 := (hm6.rd.box.cell 8)
      have t9 := (hm6.rd.box.cell 9)
      have t10 := (hm6.rd.box.cell 10)
      have t11 := (hm6.rd.box.cell 11)
      have t12 := (hm6.rd.box.cell 12)
      have t13 := (hm6.rd.box.cell 13)
      simp only [doC, ZG, ZH, ZJ] at t8 t9 t10 t11 t12 t13
      have HLEN := hide (ackL_len s ak4 HRM.out)
      clear hf6 hm6 hb6 HAKM y8 y9 y10 y11 y12 y13
      go_wp2_with fail
      refine HAKE.out.mono ?_
      rintro e7 w7 ⟨b7, c7, d7, rfl, hd7, he7, hb7⟩
      have HDM := hide hd7
      have HEND := hide he7
      have HBL := hide (HB6.out.trans hb7)
      clear hd7 he7 hb7 t8 t9 t10 t11 t12 t13 HAKE
      go_wp2_with fail
      go_meet
      case rel => exact ⟨f6, d7, _, a6, b7, _, c6, c7, ackL s ak4, _, by rw [HFB.out], by rw [HDM.out], rfl, rfl, rfl, rfl, rfl, HLEN.out, HEND.out, HBL.out⟩
     ·have HAKM := hide (spack_mid (ak := ak4) a2 c2 HDU4.out HRD.out HB14.out.size)
      rw [HAK.out] at HAKM
      go_wp2_with fail
      refine HAKM.out.mono ?_
      rintro e6 w6 ⟨a6, c6, f6, rfl, hf6, hm6, hb6⟩
      have HFB := hide hf6
      have HB6 := hide (HB14.out.trans hb6)
      have HAKE := hide (r17ack_end (ak := ak4) a2 c2 hm6 HB6.out.size (by rw [HAL.out]; omega) HMAY.out HRM.out)
      rw [HAK.out] at HAKE
      have t8 := (hm6.rd.box.cell 8)
      have t9 := (hm6.rd.box.cell 9)
      have t10 := (hm6.rd.box.cell 10)
      have t11 := (hm6.rd.box.cell 11)
      have t12 := (hm6.rd.box.cell 12)
      have t13 := (hm6.rd.box.cell 13)
      simp only [doC, ZG, ZH, ZJ] at t8 t9 t10 t11 t12 t13
      have HLEN := hide (ackL_len s ak4 HRM.out)
      clear hf6 hm6 hb6 HAKM y8 y9 y10 y11 y12 y13
      go_wp2_with fail
      refine HAKE.out.mono ?_
      rintro e7 w7 ⟨b7, c7, d7, rfl, hd7, he7, hb7⟩
      have HDM := hide hd7
      have HEND := hide he7
      have HBL := hide (HB6.out.trans hb7)
      clear hd7 he7 hb7 t8 t9 t10 t11 t12 t13 HAKE
      go_wp2_with fail
      go_meet
      case rel => exact ⟨f6, d7, _, a6, b7, _, c6, c7, ackL s ak4, _, by rw [HFB.out], by rw [HDM.out], rfl, rfl, rfl, rfl, rfl, HLEN.out, HEND.out, HBL.out⟩
     ·have HAKM := hide (splose_mid (now := nw) (r := r) HDU4.out HRD.out HB14.out.size HSM.out)
      unfold rtV at HAKM
      go_wp2_with fail
      refine HAKM.out.mono ?_
      rintro e6 w6 ⟨a6, c6, f6, rfl, hf6, hm6, hb6⟩
      have HFB := hide hf6
      have HB6 := hide (HB14.out.trans hb6)
      have HAKE := hide (r17lose_end (now := nw) (r := r) hm6 HB6.out.size HGR.out HSM.out HMAY.out HRM.out HCK.out)
      unfold rtV at HAKE
      have t1 := (hm6.rd.box.cell 1)
      have t14 := (hm6.rd.box.cell 14)
      have t15 := (hm6.rd.box.cell 15)
      have t16 := (hm6.rd.box.cell 16)
      have t17 := (hm6.rd.box.cell 17)
      have t18 := (hm6.rd.box.cell 18)
      simp only [doC, ZG, ZH, ZJ] at t1 t14 t15 t16 t17 t18
      have HLEN := hide (loseL_len s nw r HRM.out)
      clear hf6 hm6 hb6 HAKM y1 y14 y15 y16 y17 y18
      go_wp2_with fail
      refine HAKE.out.mono ?_
      rintro e7 w7 ⟨b7, c7, d7, rfl, hd7, he7, hb7⟩
      have HDM := hide hd7
      have HEND := hide he7
      have HBL := hide (HB6.out.trans hb7)
      clear hd7 he7 hb7 t1 t14 t15 t16 t17 t18 HAKE
      go_wp2_with fail
      go_meet
      case rel => exact ⟨f6, d7, _, a6, b7, _, c6, c7, loseL s nw r, _, by rw [HFB.out], by rw [HDM.out], rfl, rfl, rfl, rfl, rfl, HLEN.out, HEND.out, HBL.out⟩
     ·go_wp2_with fail
      refine (spcopy_any f3 s _ HDU4.out.duo.sp).mono ?_
      rintro e6 w6 ⟨f6, rfl, hs6, hl6, hb6⟩
      have HS6 := hide hs6
      have HL6 := hide hl6
      have HB6 := hide hb6
      have HR6 := hide (HDU4.out.duo.rs.below hb6)
      clear hs6 hl6 hb6
      go_wp2_with fail
      refine (r17copy_any d3 s _ HR6.out).mono ?_
      rintro e7 w7 ⟨d7, rfl, hs7, hl7, hb7⟩
      have HS7 := hide hs7
      have HL7 := hide hl7
      have HB7 := hide hb7
      have HO7 := hide (HDU4.out.duo.sp.below (bw_below' HB6.out hb7))
      clear hs7 hl7 hb7
      go_wp2_with fail
      refine (spdiscard_any f3 s _ HO7.out).mono ?_
      rintro e8 w8 ⟨rfl, hp8⟩
      have hdc := duo_copy HDU4.out HB14.out.size HS6.out HL6.out HB6.out HS7.out HL7.out HB7.out hp8
      have HDC := hide hdc.1
      have HBL := hide (HB14.out.trans hdc.2)
      have HBX := hide (hp8.only.blk (((HRD.out.below HB6.out).below HB7.out).box) HRD.out.nf)
      clear hp8 hdc
      go_wp2_with fail
      go_meet
      case rel => exact ⟨f6, d7, _, none, none, 0, 0, 0, [], 0, rfl, rfl, rfl, rfl, rfl, rfl, rfl, by simp, ⟨HDC.out, HBX.out, tdAt_nil _, tdAt_nil _⟩, HBL.out⟩
     ·go_wp2_with fail
      refine (spdiscard_mid HDU4.out HRD.out HB14.out.size).mono ?_
      rintro e6 w6 ⟨rfl, hm6, hb6⟩
      have HM6 := hide hm6
      have HB6 := hide (HB14.out.trans hb6)
      clear hm6 hb6
      go_wp2_with fail
      refine (r17discard_end HM6.out HB6.out.size).mono ?_
      rintro e7 w7 ⟨rfl, he7, hb7⟩
      have HEND := hide he7
      have HBL := hide (HB6.out.trans hb7)
      clear he7 hb7
      go_wp2_with fail
      go_meet
      case rel => exact ⟨f3, d3, _, none, none, 0, 0, 0, [], 0, rfl, rfl, rfl, rfl, rfl, rfl, rfl, by simp, HEND.out, HBL.out⟩
    case rest =>
     obtain ⟨f4, d4, s4, a1, b1, m1, c1, e1, qs, g, rfl, rfl, rfl, rfl, rfl, rfl, hm1, hq1, he1, hb1⟩ := hcut
     clear HDU4 HRD HAK HAL HMAY HRM HCK HGR HM y0 k0 k1 HB04 HB14
     have HE1 := hide he1
     have HB1 := hide hb1
     have HQ1 := hide hq1
     have HM1 := hide hm1
     have b0 : Blk wc X 67 (doC kd nw p ak a2 N c2 r) := he1.box
     clear he1 hb1 hq1 hm1
     go_wp2_with fail
     refine (r09same_any a1 b1 m1 c1 e1 qs _ HM1.out (by have := HQ1.out; rw [← HM1.out]; omega) HE1.out.one.row HE1.out.two.row).mono ?_
     rintro e2 w2 ⟨rfl, hb2⟩
     have HE2 := hide (HE1.out.below hb2)
     have HB2 := hide (bw_below' HB1.out hb2)
     clear hb2
     have hbx2 := HE2.out.box
     have HBX2 := hide hbx2
     have HDS2 := hide (show (Tryz.prog.info? 67).map (·.size) = some (doC kd nw p ak a2 N c2 r).size from HDSZ.out 0)
     obtain ⟨mc4, hmc4⟩ := mayC_all s4 p HE2.out.duo.duo.sp.log.room.1
     have HM4 := hide hmc4
     have HNW : Hid (-9223372036854775808 ≤ nw ∧ nw ≤ 9223372036854775807) := ⟨HOK.out.n0, HOK.out.n1⟩
     clear hmc4 hbx2 b0 HE1 HB1 HQ1 HM1
     go_wp2_with (refine wpList_load_rowW (by rfl) 67 (.tmp 10) rfl X rfl 67 (doC kd nw p ak a2 N c2 r) (0, 0) _ HBX2.out Tryz.underlying67 rfl HDS2.out ?_)
     refine (spsame_any f4 d4 s4 kd nw p ak a2 N c2 r mc4 w2 HE2.out.duo.duo.sp HE2.out.duo.duo.rs HM4.out HNW.out HSM.out).mono ?_
     rintro e3 w3 ⟨rfl, hb3⟩
     have HE3 := hide (HE2.out.below hb3)
     have HB3 := hide (bw_below' HB2.out hb3)
     clear hb3
     go_wp2_with fail
     go_roundg (70 - (i + 1))
     case measure => omega
     case rel => exact ⟨i + 1, f4, d4, s4, rfl, rfl, by simp, by omega, by omega, by omega, HE3.out.duo, HB3.out⟩
   ·rcases (by omega : n ≤ i ∨ (i < n ∧ i = 70)) with hge | ⟨hlt2, rfl⟩
    ·have hin : ¬ (i : Int) < (n : Int) := by omega
     clear hlt hge
     go_wp2_with fail
     refine (works17_any _).mono ?_
     rintro e9 w9 ⟨rfl, hb9⟩
     have HB9 := hide (bw_below' HBR.out hb9)
     clear hb9
     go_wp2_with fail
     first
     | exact ⟨rfl, HB9.out⟩
     | (go_ret; exact ⟨rfl, HB9.out⟩)
    ·have hin : ((70 : Nat) : Int) < (n : Int) := by omega
     have hin2 : (70 : Int) < (n : Int) := by omega
     clear hlt
     go_wp2_with fail
     refine (works17_any _).mono ?_
     rintro e9 w9 ⟨rfl, hb9⟩
     have HB9 := hide (bw_below' HBR.out hb9)
     clear hb9
     go_wp2_with fail
     first
     | exact ⟨rfl, HB9.out⟩
     | (go_ret; exact ⟨rfl, HB9.out⟩)
end Go.Proofs.YtgicljeedegncaaGreat
