/-
 SpaceKnown: its walk. Printed by wip/genskk.py.
-/
import Derived.Test.YtgicljeedegncaaGreatTqSkSt
namespace Go.Proofs.YtgicljeedegncaaGreat
open List renaming getElem_toArray → ZA, getElem_cons_zero → ZB, getElem_cons_succ → ZC, setIfInBounds_toArray → ZD, set_cons_zero → ZE, set_cons_succ → ZF
open Go.Act renaming put → ZP
open Go.Value renaming int → ZI
open Go.IntKind renaming i64 → ZQ
set_option linter.unusedSimpArgs false
set_option linter.unusedVariables false
open Go.RowKit

set_option maxRecDepth 100000 in
set_option maxHeartbeats 8000000 in
theorem spknown_any (w : World) : Calls Tryz.prog 9 #[] w fun e w' => e = .returned (.bool true) ∧ Below w.heap.size w w' := by
 go_enter Tryz.func9, Tryz.ntmps9
 go_upto_region 2 with (fail)
 have hE := Blk.new w 3 endsC
 have hb0 : Below w.heap.size w (w.alloc (.cells endsC 3)) := (Below.refl _ _).alloc (Nat.le_refl _) _
 have HEN := hide (EnAt.mk hE hb0)
 obtain ⟨W1, hW1⟩ : ∃ W, w.alloc (.cells endsC 3) = W := ⟨_, rfl⟩
 obtain ⟨E, hEE⟩ : ∃ E, w.heap.size = E := ⟨_, rfl⟩
 rw [hW1, hEE] at HEN
 unfold endsC at hW1
 rw [hW1, hEE]
 clear hE hb0 hW1
 go_wp2_with fail
 go_loopg [2] 11 (fun kx s2 wr => ∃ i : Nat, s2 = ZI ZQ i ∧ i ≤ 11 ∧ 11 - i ≤ kx ∧ EnAt w wr E)
 case atStart => exact ⟨0, rfl, by omega, by omega, HEN.out⟩
 case round =>
  clear HEN
  obtain ⟨i, rfl, hi, hkx, hen⟩ := hrel
  have HEN := hide hen
  clear hen
  by_cases hlt : i < 11
  ·have hin : (i : Int) < 11 := by omega
   go_wp2_with fail
   go_loopg [3] 11 (fun kx s3 wq => ∃ k : Nat, s3 = ZI ZQ k ∧ k ≤ 11 ∧ 11 - k ≤ kx ∧ EnAt w wq E)
   case atStart => exact ⟨0, rfl, by omega, by omega, HEN.out⟩
   case round =>
    clear HEN
    obtain ⟨k, rfl, hk, hkk, hen⟩ := hrel
    have HEN := hide hen
    clear hen
    by_cases hlk : k < 11
    ·have hkn : (k : Int) < 11 := by omega
     obtain ⟨x, hx, hx0, hx1⟩ := ends_at hlt
     obtain ⟨y, hy, hy0, hy1⟩ := ends_at hlk
     have zx := (HEN.out.blk.cell i).trans hx
     have zy := (HEN.out.blk.cell k).trans hy
     have HX := hide hx
     have HY := hide hy
     clear hx hy
     go_upto_region 8 with (fail)
     go_cut [4] from 25 to 103 (fun s4 wx => ∃ B, s4 = .pointer (some ⟨B, 0, none⟩) ∧ Blk wx B 40 #[ZI ZQ x, ZI ZQ y, ZI ZQ 9, .bool true, .bool true, .bool false] ∧ EnAt w wx E)
     case first =>
      have zx1 : wr.drew.cell? ⟨E, i, none⟩ = some (ZI ZQ x) := zx
      have zy1 : wr.drew.cell? ⟨E, k, none⟩ = some (ZI ZQ y) := zy
      have HKB : Hid (∀ W', Below wr.heap.size wr W' → W'.cell? ⟨E, i, none⟩ = some (ZI ZQ x) ∧ W'.cell? ⟨E, k, none⟩ = some (ZI ZQ y)) := fun W' hb => ⟨(hb.cell (p := ⟨E, i, none⟩) (World.block_lt_of_cell? _ _ zx)).trans zx, (hb.cell (p := ⟨E, k, none⟩) (World.block_lt_of_cell? _ _ zy)).trans zy⟩
      go_region_held3 (fun w' => w'.cell? ⟨E, i, none⟩ = some (ZI ZQ x) ∧ w'.cell? ⟨E, k, none⟩ = some (ZI ZQ y)) (first | exact ⟨zx1, zy1⟩ | exact HKB.out _ ((Below.refl _ _).alloc (Nat.le_refl _) _) | exact HKB.out _ (below_drewN ((Below.refl _ _).alloc (Nat.le_refl _) _) 1) | exact HKB.out _ ((below_drewN (Below.refl _ _) 1).alloc (Nat.le_refl _) _)) (fail)
      go_wp2_with fail
      go_meet
      case rel => exact ⟨_, rfl, (Blk.new _ _ _).drew, HEN.out.later (below_drewN ((Below.refl _ _).alloc (Nat.le_refl _) _) 1)⟩
     case rest =>
      obtain ⟨B, rfl, hB, hen2⟩ := hcut
      clear HEN zx zy
      have HEN := hide hen2
      have HB := hide hB
      clear hen2 hB
      go_upto_region 9 with (fail)
      go_cut [5] from 25 to 103 (fun s5 wx => ListOf wx s5 ∧ EnAt w wx E)
      case first =>
       have hS0 : Blk wc.drew B 40 #[ZI ZQ x, ZI ZQ y, ZI ZQ 9, .bool true, .bool true, .bool false] ∧ wc.drew.cell? ⟨E, i, none⟩ = some (ZI ZQ x) ∧ wc.drew.cell? ⟨E, k, none⟩ = some (ZI ZQ y) := ⟨HB.out.drew, (HEN.out.blk.cell i).trans HX.out, (HEN.out.blk.cell k).trans HY.out⟩
       have HD := hide (HEN.out.later (below_drewN (Below.refl wc.heap.size wc) 1))
       refine wp_region_held_drew (S := (fun w' => Blk w' B 40 #[ZI ZQ x, ZI ZQ y, ZI ZQ 9, .bool true, .bool true, .bool false] ∧ w'.cell? ⟨E, i, none⟩ = some (ZI ZQ x) ∧ w'.cell? ⟨E, k, none⟩ = some (ZI ZQ y))) (by kernel_rfl) (by exact hS0) (fun hHeld => ?_)
       refine tkP 0 ?_ rfl ?_ ?_
       rotate_left
       ·intro w' hSw; (try dsimp only at hSw); obtain ⟨m0, m1, m2⟩ := hSw; have n0 := m0.cell 0; have n1 := m0.cell 1; have n2 := m0.cell 2; have n3 := m0.cell 3; have n4 := m0.cell 4; have n5 := m0.cell 5; go_simp; try with_reducible rfl
       try simp only [ZP, ZA, ZB, ZC, ZD, ZE, ZF]
       refine tkP 3 ?_ rfl ?_ ?_
       rotate_left
       ·intro w' hSw; (try dsimp only at hSw); go_simp; try with_reducible rfl
       try simp only [ZP, ZA, ZB, ZC, ZD, ZE, ZF]
       refine tkP 4 ?_ rfl ?_ ?_
       rotate_left
       ·intro w' hSw; (try dsimp only at hSw); go_simp; try with_reducible rfl
       try simp only [ZP, ZA, ZB, ZC, ZD, ZE, ZF]
       refine tkP 7 ?_ rfl ?_ ?_
       rotate_left
       ·intro w' hSw; (try dsimp only at hSw); go_simp; try with_reducible rfl
       try simp only [ZP, ZA, ZB, ZC, ZD, ZE, ZF]
       refine tkP 8 ?_ rfl ?_ ?_
       rotate_left
       ·intro w' hSw; (try dsimp only at hSw); go_simp; try with_reducible rfl
       try simp only [ZP, ZA, ZB, ZC, ZD, ZE, ZF]
       refine tkP 17 ?_ rfl ?_ ?_
       rotate_left
       ·intro w' hSw; (try dsimp only at hSw); go_simp; try with_reducible rfl
       try simp only [ZP, ZA, ZB, ZC, ZD, ZE, ZF]
       refine tkP 18 ?_ rfl ?_ ?_
       rotate_left
       ·intro w' hSw; (try dsimp only at hSw); go_simp; try with_reducible rfl
       try simp only [ZP, ZA, ZB, ZC, ZD, ZE, ZF]
       refine tkP 23 ?_ rfl ?_ ?_
       rotate_left
       ·intro w' hSw; (try dsimp only at hSw); go_simp; try with_reducible rfl
       try simp only [ZP, ZA, ZB, ZC, ZD, ZE, ZF]
       refine tkP 27 ?_ rfl ?_ ?_
       rotate_left
       ·intro w' hSw; (try dsimp only at hSw); go_simp; try with_reducible rfl
       try simp only [ZP, ZA, ZB, ZC, ZD, ZE, ZF]
       refine tkP 28 ?_ rfl ?_ ?_
       rotate_left
       ·intro w' hSw; (try dsimp only at hSw); go_simp; try with_reducible rfl
       try simp only [ZP, ZA, ZB, ZC, ZD, ZE, ZF]
       refine tkP 29 ?_ rfl ?_ ?_
       rotate_left
       ·intro w' hSw; (try dsimp only at hSw); go_simp; try with_reducible rfl
       try simp only [ZP, ZA, ZB, ZC, ZD, ZE, ZF]
       refine tkP 32 ?_ rfl ?_ ?_
       rotate_left
       ·intro w' hSw; (try dsimp only at hSw); go_simp; try with_reducible rfl
       try simp only [ZP, ZA, ZB, ZC, ZD, ZE, ZF]
       refine tkP 33 ?_ rfl ?_ ?_
       rotate_left
       ·intro w' hSw; (try dsimp only at hSw); go_simp; try with_reducible rfl
       try simp only [ZP, ZA, ZB, ZC, ZD, ZE, ZF]
       refine tkP 38 ?_ rfl ?_ ?_
       rotate_left
       ·intro w' hSw; (try dsimp only at hSw); go_simp; try with_reducible rfl
       try simp only [ZP, ZA, ZB, ZC, ZD, ZE, ZF]
       refine tkP 39 ?_ rfl ?_ ?_
       rotate_left
       ·intro w' hSw; (try dsimp only at hSw); go_simp; try with_reducible rfl
       try simp only [ZP, ZA, ZB, ZC, ZD, ZE, ZF]
       refine tkP 40 ?_ rfl ?_ ?_
       rotate_left
       ·intro w' hSw; (try dsimp only at hSw); go_simp; try with_reducible rfl
       try simp only [ZP, ZA, ZB, ZC, ZD, ZE, ZF]
       refine tkP 43 ?_ rfl ?_ ?_
       rotate_left
       ·intro w' hSw; (try dsimp only at hSw); go_simp; try with_reducible rfl
       try simp only [ZP, ZA, ZB, ZC, ZD, ZE, ZF]
       refine tkP 44 ?_ rfl ?_ ?_
       rotate_left
       ·intro w' hSw; (try dsimp only at hSw); go_simp; try with_reducible rfl
       try simp only [ZP, ZA, ZB, ZC, ZD, ZE, ZF]
       refine tkP 1 ?_ rfl ?_ ?_
       rotate_left
       ·intro w' hSw; (try dsimp only at hSw); go_simp; try with_reducible rfl
       try simp only [ZP, ZA, ZB, ZC, ZD, ZE, ZF]
       refine tkP 5 ?_ rfl ?_ ?_
       rotate_left
       ·intro w' hSw; (try dsimp only at hSw); go_simp; try with_reducible rfl
       try simp only [ZP, ZA, ZB, ZC, ZD, ZE, ZF]
       refine tkP 9 ?_ rfl ?_ ?_
       rotate_left
       ·intro w' hSw; (try dsimp only at hSw); go_simp; try with_reducible rfl
       try simp only [ZP, ZA, ZB, ZC, ZD, ZE, ZF]
       refine tkP 19 ?_ rfl ?_ ?_
       rotate_left
       ·intro w' hSw; (try dsimp only at hSw); go_simp; try with_reducible rfl
       try simp only [ZP, ZA, ZB, ZC, ZD, ZE, ZF]
       refine tkP 30 ?_ rfl ?_ ?_
       rotate_left
       ·intro w' hSw; (try dsimp only at hSw); go_simp; try with_reducible rfl
       try simp only [ZP, ZA, ZB, ZC, ZD, ZE, ZF]
       refine tkP 34 ?_ rfl ?_ ?_
       rotate_left
       ·intro w' hSw; (try dsimp only at hSw); go_simp; try with_reducible rfl
       try simp only [ZP, ZA, ZB, ZC, ZD, ZE, ZF]
       refine tkP 41 ?_ rfl ?_ ?_
       rotate_left
       ·intro w' hSw; (try dsimp only at hSw); go_simp; try with_reducible rfl
       try simp only [ZP, ZA, ZB, ZC, ZD, ZE, ZF]
       refine tkP 45 ?_ rfl ?_ ?_
       rotate_left
       ·intro w' hSw; (try dsimp only at hSw); go_simp; try with_reducible rfl
       try simp only [ZP, ZA, ZB, ZC, ZD, ZE, ZF]
       refine tkP 6 ?_ rfl ?_ ?_
       rotate_left
       ·intro w' hSw; (try dsimp only at hSw); obtain ⟨m0, m1, m2⟩ := hSw; have n0 := m0.cell 0; have n1 := m0.cell 1; have n2 := m0.cell 2; have n3 := m0.cell 3; have n4 := m0.cell 4; have n5 := m0.cell 5; go_simp; try with_reducible rfl
       try simp only [ZP, ZA, ZB, ZC, ZD, ZE, ZF]
       refine tkP 10 ?_ rfl ?_ ?_
       rotate_left
       ·intro w' hSw; (try dsimp only at hSw); obtain ⟨m0, m1, m2⟩ := hSw; have n0 := m0.cell 0; have n1 := m0.cell 1; have n2 := m0.cell 2; have n3 := m0.cell 3; have n4 := m0.cell 4; have n5 := m0.cell 5; go_simp; try with_reducible rfl
       try simp only [ZP, ZA, ZB, ZC, ZD, ZE, ZF]
       refine tkP 20 ?_ rfl ?_ ?_
       rotate_left
       ·intro w' hSw; (try dsimp only at hSw); obtain ⟨m0, m1, m2⟩ := hSw; have n0 := m0.cell 0; have n1 := m0.cell 1; have n2 := m0.cell 2; have n3 := m0.cell 3; have n4 := m0.cell 4; have n5 := m0.cell 5; go_simp; try with_reducible rfl
       try simp only [ZP, ZA, ZB, ZC, ZD, ZE, ZF]
       refine tkP 31 ?_ rfl ?_ ?_
       rotate_left
       ·intro w' hSw; (try dsimp only at hSw); obtain ⟨m0, m1, m2⟩ := hSw; have n0 := m0.cell 0; have n1 := m0.cell 1; have n2 := m0.cell 2; have n3 := m0.cell 3; have n4 := m0.cell 4; have n5 := m0.cell 5; go_simp; try with_reducible rfl
       try simp only [ZP, ZA, ZB, ZC, ZD, ZE, ZF]
       refine tkP 35 ?_ rfl ?_ ?_
       rotate_left
       ·intro w' hSw; (try dsimp only at hSw); obtain ⟨m0, m1, m2⟩ := hSw; have n0 := m0.cell 0; have n1 := m0.cell 1; have n2 := m0.cell 2; have n3 := m0.cell 3; have n4 := m0.cell 4; have n5 := m0.cell 5; go_simp; try with_reducible rfl
       try simp only [ZP, ZA, ZB, ZC, ZD, ZE, ZF]
       refine tkP 42 ?_ rfl ?_ ?_
       rotate_left
       ·intro w' hSw; (try dsimp only at hSw); obtain ⟨m0, m1, m2⟩ := hSw; have n0 := m0.cell 0; have n1 := m0.cell 1; have n2 := m0.cell 2; have n3 := m0.cell 3; have n4 := m0.cell 4; have n5 := m0.cell 5; go_simp; try with_reducible rfl
       try simp only [ZP, ZA, ZB, ZC, ZD, ZE, ZF]
       refine tkP 46 ?_ rfl ?_ ?_
       rotate_left
       ·intro w' hSw; (try dsimp only at hSw); obtain ⟨m0, m1, m2⟩ := hSw; have n0 := m0.cell 0; have n1 := m0.cell 1; have n2 := m0.cell 2; have n3 := m0.cell 3; have n4 := m0.cell 4; have n5 := m0.cell 5; go_simp; try with_reducible rfl
       try simp only [ZP, ZA, ZB, ZC, ZD, ZE, ZF]
       refine tkP 11 ?_ rfl ?_ ?_
       rotate_left
       ·intro w' hSw; (try dsimp only at hSw); go_simp; try with_reducible rfl
       try simp only [ZP, ZA, ZB, ZC, ZD, ZE, ZF]
       refine tkP 36 ?_ rfl ?_ ?_
       rotate_left
       ·intro w' hSw; (try dsimp only at hSw); go_simp; try with_reducible rfl
       try simp only [ZP, ZA, ZB, ZC, ZD, ZE, ZF]
       refine tkP 47 ?_ rfl ?_ ?_
       rotate_left
       ·intro w' hSw; (try dsimp only at hSw); go_simp; try with_reducible rfl
       try simp only [ZP, ZA, ZB, ZC, ZD, ZE, ZF]
       refine tkP 37 ?_ rfl ?_ ?_
       rotate_left
       ·intro w' hSw; (try dsimp only at hSw); go_simp; try with_reducible rfl
       try simp only [ZP, ZA, ZB, ZC, ZD, ZE, ZF]
       refine wpAnyH_grown [(2, 42), (12, 52), (13, 53), (14, 54), (15, 55), (16, 56), (21, 61), (22, 62), (24, 64), (25, 65), (26, 66), (48, 88), (49, 89), (50, 90), (51, 91), (52, 5)] (skV x y) (by kernel_rfl) (skV_mono x y) (fun W' hb => ⟨(hb.block _ hS0.1.lt).trans hS0.1, ((hb.cell (p := ⟨E, i, none⟩) (World.block_lt_of_cell? _ _ hS0.2.1)).trans hS0.2.1), ((hb.cell (p := ⟨E, k, none⟩) (World.block_lt_of_cell? _ _ hS0.2.2)).trans hS0.2.2)⟩) (fun p hp => ?_) (fun vs W hv hb => ?_)
       ·simp only [List.mem_cons, List.not_mem_nil, or_false] at hp
        rcases hp with rfl | rfl | rfl | rfl | rfl | rfl | rfl | rfl | rfl | rfl | rfl | rfl | rfl | rfl | rfl | rfl
        ·refine ⟨_, rfl, fun a W hdep hout hbw K hK => ?_⟩
         go_simp
         go_at_call 26
         refine (packet17_any 3 3 _).mono ?_
         rintro e9 W9 ⟨rfl, hb9⟩
         exact hK _ _ rfl hb9
        ·refine ⟨_, rfl, fun a W hdep hout hbw K hK => ?_⟩
         have hv : a.eval (.tmp 51) = .agg #[ZI ZQ x, ZI ZQ y] := ev_of ((hout 51 (by decide)).trans rfl)
         refine wp_rows 83 54 _ 2 [.agg #[ZI ZQ x, ZI ZQ y]] rfl Tryz.underlying83 (by kernel_rfl) (by kernel_rfl) (by decide) (by simp) (by simp) (by simp [hv]) (by simp [Value.cells]) ?_
         exact hK _ _ ⟨_, rfl, rgat_new (Blk.new _ _ _) rfl⟩ ((Below.refl _ _).alloc (Nat.le_refl _) _)
        ·refine ⟨_, rfl, fun a W hdep hout hbw K hK => ?_⟩
         obtain ⟨v, hv, b, rfl, hr⟩ := hdep 12 52 (by simp) (by kernel_rfl)
         have hev := ev_of hv
         unfold Act.eval at hev
         go_simp
         go_at_call 22
         refine (ack17_any _ 1 1 _ _ rfl (by omega) hr).mono ?_
         rintro e9 W9 ⟨a9, c9, rfl, hr9, hk9, hb9⟩
         exact hK _ _ ⟨a9, c9, rfl, hr9⟩ hb9
        ·refine ⟨_, rfl, fun a W hdep hout hbw K hK => ?_⟩
         obtain ⟨v0, hv0, rfl⟩ := hdep 2 42 (by simp) (by kernel_rfl)
         have hev0 := ev_of hv0
         obtain ⟨v1, hv1, a3, c3, rfl, hr⟩ := hdep 13 53 (by simp) (by kernel_rfl)
         have hev1 := ev_of hv1
         unfold Act.eval at hev0 hev1
         simp only [pkA, ackC, rtV, p33, pMx, rtS] at hv0 hv1 hev0 hev1
         go_simp
         exact hK _ _ ⟨a3, c3, rfl, hr⟩ (Below.refl _ _)
        ·refine ⟨_, rfl, fun a W hdep hout hbw K hK => ?_⟩
         go_simp
         go_at_call 26
         refine (packet17_any 9007199254740991 9 _).mono ?_
         rintro e9 W9 ⟨rfl, hb9⟩
         exact hK _ _ rfl hb9
        ·refine ⟨_, rfl, fun a W hdep hout hbw K hK => ?_⟩
         obtain ⟨v0, hv0, rfl⟩ := hdep 15 55 (by simp) (by kernel_rfl)
         have hev0 := ev_of hv0
         unfold Act.eval at hev0
         simp only [pkA, ackC, rtV, p33, pMx, rtS] at hv0 hev0
         go_simp
         exact hK _ _ rfl (Below.refl _ _)
        ·refine ⟨_, rfl, fun a W hdep hout hbw K hK => ?_⟩
         go_simp
         go_at_call 18
         refine (steady17_any _).mono ?_
         rintro e9 W9 ⟨rfl, hb9⟩
         exact hK _ _ rfl hb9
        ·refine ⟨_, rfl, fun a W hdep hout hbw K hK => ?_⟩
         obtain ⟨v0, hv0, rfl⟩ := hdep 21 61 (by simp) (by kernel_rfl)
         have hev0 := ev_of hv0
         have heo0 : a.eval (.tmp 60) = ZI ZQ y := ev_of ((hout 60 (by decide)).trans rfl)
         unfold Act.eval at hev0 heo0
         simp only [pkA, ackC, rtV, p33, pMx, rtS] at hv0 hev0 heo0
         go_simp
         exact hK _ _ rfl (Below.refl _ _)
        ·refine ⟨_, rfl, fun a W hdep hout hbw K hK => ?_⟩
         have hv : a.eval (.tmp 63) = .agg #[ZI ZQ 9007199254740991, ZI ZQ 9007199254740991] := ev_of ((hout 63 (by decide)).trans rfl)
         refine wp_rows 83 54 _ 2 [.agg #[ZI ZQ 9007199254740991, ZI ZQ 9007199254740991]] rfl Tryz.underlying83 (by kernel_rfl) (by kernel_rfl) (by decide) (by simp) (by simp) (by simp [hv]) (by simp [Value.cells]) ?_
         exact hK _ _ ⟨_, rfl, rgat_new (Blk.new _ _ _) rfl⟩ ((Below.refl _ _).alloc (Nat.le_refl _) _)
        ·refine ⟨_, rfl, fun a W hdep hout hbw K hK => ?_⟩
         obtain ⟨v, hv, b, rfl, hr⟩ := hdep 24 64 (by simp) (by kernel_rfl)
         have hev := ev_of hv
         unfold Act.eval at hev
         go_simp
         go_at_call 22
         refine (ack17_any _ 1 1 _ _ rfl (by omega) hr).mono ?_
         rintro e9 W9 ⟨a9, c9, rfl, hr9, hk9, hb9⟩
         exact hK _ _ ⟨a9, c9, rfl, hr9⟩ hb9
        ·refine ⟨_, rfl, fun a W hdep hout hbw K hK => ?_⟩
         obtain ⟨v0, hv0, a3, c3, rfl, hr⟩ := hdep 25 65 (by simp) (by kernel_rfl)
         have hev0 := ev_of hv0
         unfold Act.eval at hev0
         simp only [pkA, ackC, rtV, p33, pMx, rtS] at hv0 hev0
         go_simp
         exact hK _ _ ⟨a3, c3, rfl, hr⟩ (Below.refl _ _)
        ·refine ⟨_, rfl, fun a W hdep hout hbw K hK => ?_⟩
         have hv : a.eval (.tmp 87) = .agg #[ZI ZQ x, ZI ZQ x] := ev_of ((hout 87 (by decide)).trans rfl)
         refine wp_rows 83 54 _ 2 [.agg #[ZI ZQ x, ZI ZQ x]] rfl Tryz.underlying83 (by kernel_rfl) (by kernel_rfl) (by decide) (by simp) (by simp) (by simp [hv]) (by simp [Value.cells]) ?_
         exact hK _ _ ⟨_, rfl, rgat_new (Blk.new _ _ _) rfl⟩ ((Below.refl _ _).alloc (Nat.le_refl _) _)
        ·refine ⟨_, rfl, fun a W hdep hout hbw K hK => ?_⟩
         obtain ⟨v, hv, b, rfl, hr⟩ := hdep 48 88 (by simp) (by kernel_rfl)
         have hev := ev_of hv
         unfold Act.eval at hev
         go_simp
         go_at_call 22
         refine (ack17_any _ 1 1 _ _ rfl (by omega) hr).mono ?_
         rintro e9 W9 ⟨a9, c9, rfl, hr9, hk9, hb9⟩
         exact hK _ _ ⟨a9, c9, rfl, hr9⟩ hb9
        ·refine ⟨_, rfl, fun a W hdep hout hbw K hK => ?_⟩
         obtain ⟨v0, hv0, a3, c3, rfl, hr⟩ := hdep 49 89 (by simp) (by kernel_rfl)
         have hev0 := ev_of hv0
         unfold Act.eval at hev0
         simp only [pkA, ackC, rtV, p33, pMx, rtS] at hv0 hev0
         go_simp
         exact hK _ _ ⟨a3, c3, rfl, hr⟩ (Below.refl _ _)
        ·refine ⟨_, rfl, fun a W hdep hout hbw K hK => ?_⟩
         obtain ⟨v1, hv1, a1, c1, rfl, hr1⟩ := hdep 14 54 (by simp) (by kernel_rfl)
         obtain ⟨v2, hv2, rfl⟩ := hdep 16 56 (by simp) (by kernel_rfl)
         obtain ⟨v3, hv3, rfl⟩ := hdep 22 62 (by simp) (by kernel_rfl)
         obtain ⟨v4, hv4, a4, c4, rfl, hr4⟩ := hdep 26 66 (by simp) (by kernel_rfl)
         obtain ⟨v8, hv8, a8, c8, rfl, hr8⟩ := hdep 50 90 (by simp) (by kernel_rfl)
         have e0 : a.eval (.tmp 41) = .agg (doC 0 0 ⟨x, y, 9, true, true, false⟩ ak0 none 0 0 rt0) := ev_of ((hout 41 (by decide)).trans rfl)
         have e5 : a.eval (.tmp 67) = .agg (doC 6 0 p00 ak0 none 0 0 rt0) := ev_of ((hout 67 (by decide)).trans rfl)
         have e6 : a.eval (.tmp 77) = .agg (doC 5 50 p00 ak0 none 0 0 ⟨0, 0, x, 0, y⟩) := ev_of ((hout 77 (by decide)).trans rfl)
         have e7 : a.eval (.tmp 78) = .agg (doC 7 0 p00 ak0 none 0 0 rt0) := ev_of ((hout 78 (by decide)).trans rfl)
         refine wp_rows 62 67 _ 19 ((nineDo x y a1 a4 a8 c1 c4 c8).map fun d => .agg d.cells) rfl Tryz.underlying62 (by kernel_rfl) (by kernel_rfl) (by decide) (by simp [nineDo]) (by simp [nineDo]) ?_ (fun v hv => by obtain ⟨d, _, rfl⟩ := List.mem_map.1 hv; exact DO.size d) ?_
         ·simp only [List.map_toArray, List.map_cons, List.map_nil, ev_of hv1, ev_of hv2, ev_of hv3, ev_of hv4, ev_of hv8, e0, e5, e6, e7]
          rfl
         ·rw [List.flatMap_map]
          exact hK _ _ (nine_list ⟨hx0, hx1⟩ ⟨hy0, hy1⟩ hr1 hr4 hr8 rfl) ((Below.refl _ _).alloc (Nat.le_refl _) _)
        ·refine ⟨_, rfl, fun a W hdep hout hbw K hK => ?_⟩
         obtain ⟨v, hv, hl⟩ := hdep 51 91 (by simp) (by kernel_rfl)
         have hev := ev_of hv
         unfold Act.eval at hev
         go_simp
         exact hK _ _ hl (Below.refl _ _)
       ·have hl : ListOf W (vs 52) := hv 52 5 (by simp)
        have HEW := hide (HD.out.later hb)
        simp only [putL, List.map_cons, List.map_nil, ZP, ZD, ZE, ZF]
        go_wp2_with fail
        go_meet
        case rel => exact ⟨hl, HEW.out⟩
      case rest =>
       obtain ⟨⟨g, xs, rfl, hxl, hxs⟩, hen3⟩ := hcut
       clear HEN HB
       have HEN := hide hen3
       have HXS := hide hxs
       clear hen3 hxs
       have zy := (HEN.out.blk.cell k).trans HY.out
       go_wp2_with fail
       refine (spplays_any y (some ⟨g, 0, none⟩) 9 9 xs _ ⟨hy0, hy1⟩ hxl HXS.out).mono ?_
       rintro e1 w1 ⟨rfl, hb1⟩
       have HEN1 := hide (HEN.out.later hb1)
       have HXS1 := hide (HXS.out.below hb1)
       clear hb1 zy HEN HXS
       go_wp2_with fail
       refine (spplays_any 3 (some ⟨g, 0, none⟩) 9 9 xs _ (by omega) hxl HXS1.out).mono ?_
       rintro e2 w2 ⟨rfl, hb2⟩
       have HEN2 := hide (HEN1.out.later hb2)
       clear hb2 HEN1 HXS1
       go_wp2_with fail
       go_roundg (11 - (k + 1))
       case measure => omega
       case rel => exact ⟨k + 1, by go_num, by omega, by omega, HEN2.out⟩
    ·have hkn : ¬ (k : Int) < 11 := by omega
     go_wp2_with fail
     go_roundg (11 - (i + 1))
     case measure => omega
     case rel => exact ⟨i + 1, by go_num, by omega, by omega, HEN.out⟩
  ·have hin : ¬ (i : Int) < 11 := by omega
   have HBW := hide HEN.out.below
   clear hlt HEN hkx hi
   go_wp2_with fail
   refine (spnew_ok 256 _ (by omega) (by omega)).mono ?_
   rintro e1 w1 ⟨f1, rfl, hs1, hn1, hb1⟩
   have HF := hide (SpL.mk (w := w) hs1 (fun x hx => Nat.le_trans HBW.out.size (hn1 x hx)) (bw_below' HBW.out hb1))
   clear hs1 hn1 hb1 HBW
   go_wp2_with fail
   go_loopg [8] 256 (fun kx s8 wr => ∃ (j : Nat) (f : Ft), s8 = ZI ZQ j ∧ j ≤ 256 ∧ 256 - j ≤ kx ∧ f.b = f1.b ∧ SpL w wr f (stK j))
   case atStart => exact ⟨0, f1, rfl, by omega, by omega, rfl, HF.out⟩
   case round =>
    clear HF
    obtain ⟨j, f, rfl, hj, hkj, hfb, hS⟩ := hrel
    have HS := hide hS
    have HFB := hide hfb
    clear hS hfb
    by_cases hjl : j < 256
    ·have hjn : (j : Int) < 256 := by omega
     have h2j : (2 : Int) * (j : Int) ≤ 512 := by omega
     have h2k : (0 : Int) ≤ 2 * (j : Int) := by omega
     go_wp2_with fail
     refine (packet17_any _ _ _).mono ?_
     rintro e2 w2 ⟨rfl, hb2⟩
     have HS2 := hide (HS.out.later hb2)
     have HC := hide (sent_k hjl HS2.out.sp)
     rw [HFB.out] at HC
     clear hb2 HS
     go_wp2_with fail
     refine HC.out.mono ?_
     rintro e3 w3 ⟨rfl, f3, hp3⟩
     have HS3 := hide (HS2.out.step hp3)
     have hb3 := hp3.b
     clear hp3 HC HS2
     go_wp2_with fail
     go_roundg (256 - (j + 1))
     case measure => omega
     case rel => exact ⟨j + 1, f3, by go_num, by omega, by omega, hb3.trans HFB.out, HS3.out⟩
    ·have hjn : ¬ (j : Int) < 256 := by omega
     obtain rfl : j = 256 := by omega
     clear hj hkj hjl
     go_wp2_with fail
     have hba : Below wr.heap.size wr (wr.alloc (.cells #[ZI ZQ 510, ZI ZQ 510, ZI ZQ 500, ZI ZQ 500, ZI ZQ 0, ZI ZQ 0] 54)) := (Below.refl _ _).alloc (Nat.le_refl _) _
     refine (ack17_any _ 3 3 [⟨510, 510⟩, ⟨500, 500⟩, ⟨0, 0⟩] _ rfl (by omega) (rgat_new (Blk.new _ _ _) rfl)).mono ?_
     rintro e2 w2 ⟨a2, c2, rfl, hr2, hk2, hb2⟩
     have HS2 := hide (HS.out.later (bw_below' hba hb2))
     have hlf := HS.out.sp.lt
     have hna2 : ∀ k, a2 = some ⟨k, 0, none⟩ → k ∉ f.all := fun k e hm => by have h1 := hlf k hm; have h2 := (hk2 k 0 e).1; simp only [World.size_alloc] at h2; omega
     have HC := hide (spackq_any f (stK 256) a2 c2 akX _ HS2.out.sp hr2 hna2)
     unfold AckqPost at HC
     rw [kx_E, kx_L, HFB.out] at HC
     clear HS hba hr2 hk2 hb2 hlf hna2
     go_wp2_with fail
     refine HC.out.mono ?_
     rintro e3 w3 ⟨a3, c3, f3, rfl, hp3, hc3, hk3, hq3⟩
     have HS3 : Hid (SpL w w3 f3 sX) := HS2.out.step hq3
     have HF3 := hide (hq3.b.trans HFB.out)
     have HP3 := hide hp3
     rw [show List.length [pkX 0 0, pkX 500 250, pkX 510 255] = 3 from rfl] at hc3 ⊢
     clear HC HS2 hp3 hk3 hq3 HFB
     go_wp2_with fail
     refine (numbers17_any a3 3 c3 _ _ rfl (by decide) HP3.out).mono ?_
     rintro e4 w4 ⟨a4, c4, rfl, hi4, _, _, hb4⟩
     have HS4 := hide (HS3.out.later hb4)
     have HI4 := hide hi4
     clear hb4 hi4 HS3 HP3
     go_wp2_with fail
     refine (eqints_any a4 (some ⟨w4.heap.size, 0, none⟩) 3 3 c4 3 [0, 500, 510] [0, 500, 510] _ rfl rfl (by decide) (NumsAt.below HI4.out ((Below.refl _ _).alloc (Nat.le_refl _) _)) (numsAt_new (Blk.new _ _ _) rfl)).mono ?_
     rintro e5 w5 ⟨rfl, hb5⟩
     rw [show decide ([(0 : Int), 500, 510] = [0, 500, 510]) = true from rfl]
     have HS5 := hide ((HS4.out.alloc _).later hb5)
     clear hb5 HS4 HI4
     go_wp2_with fail
     refine (packet17_any _ _ _).mono ?_
     rintro e6 w6 ⟨rfl, hb6⟩
     have HS6 := hide (HS5.out.later hb6)
     have HC := hide (spsent_no f3 sX (p17 512 9) 5 w6 HS6.out.sp kx_may (by decide))
     rw [HF3.out] at HC
     clear hb6 HS5
     go_wp2_with fail
     refine HC.out.mono ?_
     rintro e7 w7 ⟨rfl, hb7⟩
     have HS7 := hide (HS6.out.later hb7)
     clear hb7 HS6 HC
     go_wp2_with fail
     refine (packet17_any _ _ _).mono ?_
     rintro e8 w8 ⟨rfl, hb8⟩
     have HS8 := hide (HS7.out.later hb8)
     have HC := hide (spmay_any f3 sX (p17 512 9) 5 w8 HS8.out.sp kx_may)
     rw [HF3.out] at HC
     clear hb8 HS7
     go_wp2_with fail
     refine HC.out.mono ?_
     rintro e9 w9 ⟨rfl, hb9⟩
     have HS9 := hide (HS8.out.later hb9)
     clear hb9 HS8 HC
     go_wp2_with fail
     refine (packet17_any _ _ _).mono ?_
     rintro e10 w10 ⟨rfl, hb10⟩
     have HS10 := hide (HS9.out.later hb10)
     have HC := hide (kx_sent HS10.out.sp)
     rw [HF3.out] at HC
     clear hb10 HS9
     go_wp2_with fail
     refine HC.out.mono ?_
     rintro e11 w11 ⟨rfl, f11, hp11⟩
     have HB11 := hide (HS10.out.step hp11).below
     clear hp11 HS10 HC HF3
     go_wp2_with fail
     go_loopg [12, 13] 2 (fun kx s12 s13 wr => ∃ (j : Nat), s13 = ZI ZQ j ∧ j ≤ 2 ∧ 2 - j ≤ kx ∧ NoSp wr s12 ∧ Below w.heap.size w wr)
     case atStart => exact ⟨0, rfl, by omega, by omega, .inl rfl, HB11.out⟩
     case round =>
      clear HB11
      obtain ⟨j, rfl, hj, hkj, hns, hbw⟩ := hrel
      by_cases hjl : j < 2
      ·have hjn : (j : Int) < 2 := by omega
       have HNA := hide hns
       have HWA := hide hbw
       clear hns hbw
       go_wp2_with fail
       have hba : Below wr.heap.size wr (wr.alloc (.cells #[ZI ZQ 0, ZI ZQ 0] 54)) := (Below.refl _ _).alloc (Nat.le_refl _) _
       refine (ack17_any _ 1 1 [⟨0, 0⟩] _ rfl (by omega) (rgat_new (Blk.new _ _ _) rfl)).mono ?_
       rintro e2 w2 ⟨a2, c2, rfl, _, _, hb2⟩
       have HNB := hide (HNA.out.below (bw_below' hba hb2))
       have HWB := hide (bw_below' HWA.out (bw_below' hba hb2))
       clear hba hb2 HNA HWA
       go_wp2_with fail
       refine (skn_ack _ _ _ HNB.out).mono ?_
       rintro e3 w3 ⟨rfl, hb3⟩
       have HNC := hide (HNB.out.below hb3)
       have HWC := hide (bw_below' HWB.out hb3)
       clear hb3 HNB HWB
       go_wp2_with fail
       refine (steady17_any _).mono ?_
       rintro e4 w4 ⟨rfl, hb4⟩
       have HND := hide (HNC.out.below hb4)
       have HWD := hide (bw_below' HWC.out hb4)
       clear hb4 HNC HWC
       go_wp2_with fail
       refine (skn_lose _ 0 rtS _ HND.out).mono ?_
       rintro e5 w5 ⟨rfl, hb5⟩
       have HNE := hide (HND.out.below hb5)
       have HWE := hide (bw_below' HWD.out hb5)
       clear hb5 HND HWD
       go_wp2_with fail
       refine (skn_discard _ _ HNE.out).mono ?_
       rintro e6 w6 ⟨rfl, hb6⟩
       have HN0 := hide (HNE.out.below hb6)
       have HW0 := hide (bw_below' HWE.out hb6)
       clear hb6 HNE HWE
       go_wp2_with fail
       refine (packet17_any 0 0 _).mono ?_
       rintro e0 u0 ⟨rfl, hb0⟩
       have HN1 := hide (HN0.out.below hb0)
       have HW1 := hide (bw_below' HW0.out hb0)
       clear hb0 HN0 HW0
       go_wp2_with fail
       refine (skn_sent _ (p17 0 0) _ HN1.out).mono ?_
       rintro e1 u1 ⟨rfl, hb1⟩
       have HN2 := hide (HN1.out.below hb1)
       have HW2 := hide (bw_below' HW1.out hb1)
       clear hb1 HN1 HW1
       go_wp2_with fail
       refine (packet17_any 0 0 _).mono ?_
       rintro e2 u2 ⟨rfl, hb2⟩
       have HN3 := hide (HN2.out.below hb2)
       have HW3 := hide (bw_below' HW2.out hb2)
       clear hb2 HN2 HW2
       go_wp2_with fail
       refine (skn_may _ (p17 0 0) _ HN3.out).mono ?_
       rintro e3 u3 ⟨rfl, hb3⟩
       have HN4 := hide (HN3.out.below hb3)
       have HW4 := hide (bw_below' HW3.out hb3)
       clear hb3 HN3 HW3
       go_wp2_with fail
       refine (skn_all _ _ HN4.out).mono ?_
       rintro e4 u4 ⟨rfl, hb4⟩
       have HN5 := hide (HN4.out.below hb4)
       have HW5 := hide (bw_below' HW4.out hb4)
       clear hb4 HN4 HW4
       go_wp2_with fail
       refine (steady17_any _).mono ?_
       rintro e5 u5 ⟨rfl, hb5⟩
       have HN6 := hide (HN5.out.below hb5)
       have HW6 := hide (bw_below' HW5.out hb5)
       clear hb5 HN5 HW5
       go_wp2_with fail
       refine (skn_persists _ (.slice none 0 0) rtS 0 _ HN6.out).mono ?_
       rintro e6 u6 ⟨rfl, hb6⟩
       have HN7 := hide (HN6.out.below hb6)
       have HW7 := hide (bw_below' HW6.out hb6)
       clear hb6 HN6 HW6
       go_wp2_with fail
       refine (skn_last _ _ HN7.out).mono ?_
       rintro e7 u7 ⟨rfl, hb7⟩
       have HN8 := hide (HN7.out.below hb7)
       have HW8 := hide (bw_below' HW7.out hb7)
       clear hb7 HN7 HW7
       go_wp2_with fail
       refine (skn_greatest _ _ HN8.out).mono ?_
       rintro e8 u8 ⟨rfl, hb8⟩
       have HN9 := hide (HN8.out.below hb8)
       have HW9 := hide (bw_below' HW8.out hb8)
       clear hb8 HN8 HW8
       go_wp2_with fail
       refine (skn_loss _ _ HN9.out).mono ?_
       rintro e9 u9 ⟨rfl, hb9⟩
       have HN10 := hide (HN9.out.below hb9)
       have HW10 := hide (bw_below' HW9.out hb9)
       clear hb9 HN9 HW9
       go_wp2_with fail
       refine (skn_time _ _ HN10.out).mono ?_
       rintro e10 u10 ⟨rfl, hb10⟩
       have HN11 := hide (HN10.out.below hb10)
       have HW11 := hide (bw_below' HW10.out hb10)
       clear hb10 HN10 HW10
       go_wp2_with fail
       refine (skn_flight _ _ HN11.out).mono ?_
       rintro e11 u11 ⟨rfl, hb11⟩
       have HN12 := hide (HN11.out.below hb11)
       have HW12 := hide (bw_below' HW11.out hb11)
       clear hb11 HN11 HW11
       go_wp2_with fail
       refine (skn_eliciting _ _ HN12.out).mono ?_
       rintro e12 u12 ⟨rfl, hb12⟩
       have HN13 := hide (HN12.out.below hb12)
       have HW13 := hide (bw_below' HW12.out hb12)
       clear hb12 HN12 HW12
       go_wp2_with fail
       refine (skn_copy _ _ HN13.out).mono ?_
       rintro e13 u13 ⟨rfl, hb13⟩
       have HN14 := hide (HN13.out.below hb13)
       have HW14 := hide (bw_below' HW13.out hb13)
       clear hb13 HN13 HW13
       go_wp2_with fail
       go_roundg (2 - (j + 1))
       case measure => omega
       case rel => exact ⟨j + 1, by go_num, by omega, by omega, .inr ⟨_, rfl, (Blk.new _ _ _).cell 0⟩, bw_below' HW14.out ((Below.refl _ _).alloc (Nat.le_refl _) _)⟩
      ·have hjn : ¬ (j : Int) < 2 := by omega
       have HWA := hide hbw
       clear hns hbw
       go_wp2_with fail
       refine (works17_any _).mono ?_
       rintro e2 w2 ⟨rfl, hb2⟩
       have HWB := hide (bw_below' HWA.out hb2)
       clear hb2 HWA
       go_wp2_with fail
       go_ret
       exact ⟨rfl, HWB.out⟩
end Go.Proofs.YtgicljeedegncaaGreat
