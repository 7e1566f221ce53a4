/-
 A space: Copy; Persists; New that refuses. Printed by wip/genspgcopy.py.
-/
import Derived.Test.YtgicljeedegncaaGreatSpgLose
import Derived.Test.YtgicljeedegncaaGreatTqPersistIsAny
namespace Go.Proofs.YtgicljeedegncaaGreat
open List renaming getElem_toArray → ZA, getElem_cons_zero → ZB, getElem_cons_succ → ZC, setIfInBounds_toArray → ZD, set_cons_zero → ZE, set_cons_succ → ZF
open Go.AllReadyH renaming cons → ZS, nil → ZN
open Go.Act renaming put → ZP
set_option linter.unusedSimpArgs false
set_option linter.unusedVariables false
open Go.RowKit

/-- A space while it is copied: it lies as it lay. -/
structure CsAt (w W : World) (f : Ft) (s : SpSt) : Prop where
 sp : IsSp W f s
 below : Below w.heap.size w W
theorem CsAt.later {w W W' : World} {f : Ft} {s : SpSt} (h : CsAt w W f s) (hb : Below W.heap.size W W') : CsAt w W' f s := ⟨h.sp.below hb, bw_below' h.below hb⟩
theorem CsAt.setX {w W : World} {f : Ft} {s : SpSt} {X : Nat} (h : CsAt w W f s) (hX : w.heap.size ≤ X) (hn : X ∉ f.all) (j : Nat) (v : Value) : CsAt w (W.setCell ⟨X, j, none⟩ v) f s :=
 ⟨h.sp.only (S := [X]) ((Only.refl _ _).setCell (.inl (by simp)) _) (fun x hx hm => by simp at hm; subst hm; exact hn hx), h.below.setCell (p := ⟨X, j, none⟩) hX _⟩
def CopySpPost (w : World) (s : SpSt) (e : Ending) (w' : World) : Prop := ∃ f', e = .returned (.pointer (some ⟨f'.b, 0, none⟩)) ∧ IsSp w' f' s ∧ (∀ x ∈ f'.all, w.heap.size ≤ x) ∧ Below w.heap.size w w'
set_option maxRecDepth 100000 in
set_option maxHeartbeats 4000000 in
theorem spcopy_any (f : Ft) (s : SpSt) (w : World) (h : IsSp w f s) : Calls Tryz.prog 36 #[.pointer (some ⟨f.b, 0, none⟩)] w (CopySpPost w s) := by
 obtain ⟨y0, y1, y2, y3, y4, y5⟩ := h.cells
 have hfb := h.blk.lt
 have hlt := h.lt
 have HNX : Hid (w.heap.size ∉ f.all) := fun hm => by have := hlt _ hm; omega
 have hc0 : CsAt w (w.alloc (.cells (spCells f.lb f.kb f.mb s.great s.loss s.time) 78)) f s := ⟨h.alloc _, (Below.refl _ _).alloc (Nat.le_refl _) _⟩
 have hX0 := Blk.new w 78 (spCells f.lb f.kb f.mb s.great s.loss s.time)
 have HC0 := hide hc0
 have HX0 := hide hX0
 have H := hide h
 have CC : Hid (∀ W, CsAt w W f s → W.cell? ⟨f.b, 0, none⟩ = some (.pointer (some ⟨f.lb, 0, none⟩)) ∧ W.cell? ⟨f.b, 1, none⟩ = some (.pointer (some ⟨f.kb, 0, none⟩)) ∧ W.cell? ⟨f.b, 2, none⟩ = some (.pointer (some ⟨f.mb, 0, none⟩))) := fun W hW => ⟨hW.sp.blk.cell 0, hW.sp.blk.cell 1, hW.sp.blk.cell 2⟩
 clear h hc0 hX0
 unfold spCells at HC0 HX0
 go_enter Tryz.func36, Tryz.ntmps36
 go_wp2_with fail
 refine (spnone f s _ H.out).mono ?_
 rintro e0 w0 ⟨rfl, rfl⟩
 go_upto_region 4 with (fail)
 obtain ⟨X, hX⟩ : ∃ X, w.heap.size = X := ⟨_, rfl⟩
 obtain ⟨W0, hW0⟩ : ∃ y, w.alloc (.cells #[.pointer (some ⟨f.lb, 0, none⟩), .pointer (some ⟨f.kb, 0, none⟩), .pointer (some ⟨f.mb, 0, none⟩), .int .i64 s.great, .int .i64 s.loss, .int .i64 s.time] 78) = y := ⟨_, rfl⟩
 rw [hW0] at HC0 HX0 ⊢
 rw [hX] at HX0 HNX ⊢
 have hXw : w.heap.size ≤ X := by omega
 clear y0 y1 y2 y3 y4 y5 hW0
 refine wp_region_held_drew (S := (fun w' => CsAt w w' f s)) (by kernel_rfl) (by exact HC0.out.later (Below.refl _ _).drew) (fun hHeld => ?_)
 refine tkP 0 ?_ rfl ?_ ?_
 rotate_left
 ·intro w' hSw; (try dsimp only at hSw); go_simp; try with_reducible rfl
 try simp only [ZP, ZA, ZB, ZC, ZD, ZE, ZF]
 refine tkP 1 ?_ rfl ?_ ?_
 rotate_left
 ·intro w' hSw; (try dsimp only at hSw); go_simp; try with_reducible rfl
 try simp only [ZP, ZA, ZB, ZC, ZD, ZE, ZF]
 refine tkP 2 ?_ rfl ?_ ?_
 rotate_left
 ·intro w' hSw; (try dsimp only at hSw); go_simp; try with_reducible rfl
 try simp only [ZP, ZA, ZB, ZC, ZD, ZE, ZF]
 refine tkP 3 ?_ rfl ?_ ?_
 rotate_left
 ·intro w' hSw; (try dsimp only at hSw); obtain ⟨c0, c1, c2⟩ := CC.out _ hSw; go_simp; try with_reducible rfl
 try simp only [ZP, ZA, ZB, ZC, ZD, ZE, ZF]
 refine tkP 5 ?_ rfl ?_ ?_
 rotate_left
 ·intro w' hSw; (try dsimp only at hSw); go_simp; try with_reducible rfl
 try simp only [ZP, ZA, ZB, ZC, ZD, ZE, ZF]
 refine tkP 6 ?_ rfl ?_ ?_
 rotate_left
 ·intro w' hSw; (try dsimp only at hSw); go_simp; try with_reducible rfl
 try simp only [ZP, ZA, ZB, ZC, ZD, ZE, ZF]
 refine tkP 7 ?_ rfl ?_ ?_
 rotate_left
 ·intro w' hSw; (try dsimp only at hSw); go_simp; try with_reducible rfl
 try simp only [ZP, ZA, ZB, ZC, ZD, ZE, ZF]
 refine tkP 8 ?_ rfl ?_ ?_
 rotate_left
 ·intro w' hSw; (try dsimp only at hSw); obtain ⟨c0, c1, c2⟩ := CC.out _ hSw; go_simp; try with_reducible rfl
 try simp only [ZP, ZA, ZB, ZC, ZD, ZE, ZF]
 refine tkP 10 ?_ rfl ?_ ?_
 rotate_left
 ·intro w' hSw; (try dsimp only at hSw); go_simp; try with_reducible rfl
 try simp only [ZP, ZA, ZB, ZC, ZD, ZE, ZF]
 refine tkP 11 ?_ rfl ?_ ?_
 rotate_left
 ·intro w' hSw; (try dsimp only at hSw); go_simp; try with_reducible rfl
 try simp only [ZP, ZA, ZB, ZC, ZD, ZE, ZF]
 refine tkP 12 ?_ rfl ?_ ?_
 rotate_left
 ·intro w' hSw; (try dsimp only at hSw); go_simp; try with_reducible rfl
 try simp only [ZP, ZA, ZB, ZC, ZD, ZE, ZF]
 refine tkP 13 ?_ rfl ?_ ?_
 rotate_left
 ·intro w' hSw; (try dsimp only at hSw); obtain ⟨c0, c1, c2⟩ := CC.out _ hSw; go_simp; try with_reducible rfl
 try simp only [ZP, ZA, ZB, ZC, ZD, ZE, ZF]
 refine tkR [4] ?_
 refine ZS rfl (fun K hK => ?_) ZN
 go_simp; go_at_call 84; refine (copy_any _ _ _ _ _ _ hHeld.sp.log).mono ?_; rintro e1 w1 ⟨b1, rb1, rfl, hl1, n1, n2, hb1⟩
 have HL1 := hide hl1
 have HC1 := hide (hHeld.later hb1)
 have hX1 : Blk w1 X 78 _ := (hb1.block _ HX0.out.drew.lt).trans HX0.out.drew
 have HX1 := hide hX1
 have HU1 := hide (IsLog.lt hl1)
 have HN1 := hide (And.intro n1 n2)
 have hz1 := hb1.size
 clear hl1 hb1 hX1 hHeld n1 n2
 refine hK.out _ _ (HC1.out) (fun hHeld => ?_)
 clear hK K
 try simp only [ZP, ZA, ZB, ZC, ZD, ZE, ZF]
 refine tkR [9] ?_
 refine ZS rfl (fun K hK => ?_) ZN
 go_simp; go_at_call 85; refine (scopy_any _ _ _ _ _ hHeld.sp.kn).mono ?_; rintro e2 w2 ⟨b2, g2, rfl, hs2, n3, n4, hb2⟩
 have HS2 := hide hs2
 have HC2 := hide (HC1.out.later hb2)
 have HL2 := hide (HL1.out.below hb2)
 have hX2 : Blk w2 X 78 _ := (hb2.block _ HX1.out.lt).trans HX1.out
 have HX2 := hide hX2
 have HN2 := hide (And.intro n3 n4)
 have HU2 := hide hs2.lt
 have hz2 := hb2.size
 clear hs2 hb2 hX2 hHeld HL1 HX1 n3 n4
 refine hK.out _ _ (HC2.out) (fun hHeld => ?_)
 clear hK K
 try simp only [ZP, ZA, ZB, ZC, ZD, ZE, ZF]
 refine tkR [14] ?_
 refine ZS rfl (fun K hK => ?_) ZN
 go_simp; go_at_call 85; refine (scopy_any _ _ _ _ _ hHeld.sp.rem).mono ?_; rintro e3 w3 ⟨b3, g3, rfl, hs3, n5, n6, hb3⟩
 have HS3 := hide hs3
 have HC3 := hide (HC2.out.later hb3)
 have HL3 := hide (HL2.out.below hb3)
 have HS23 := hide (HS2.out.below hb3)
 have hX3 : Blk w3 X 78 _ := (hb3.block _ HX2.out.lt).trans HX2.out
 have HX3 := hide hX3
 have HN3 := hide (And.intro n5 n6)
 have hz3 := hb3.size
 clear hs3 hb3 hX3 hHeld HL2 HX2 n5 n6
 refine hK.out _ _ (HC3.out) (fun hHeld => ?_)
 clear hK K
 try simp only [ZP, ZA, ZB, ZC, ZD, ZE, ZF]
 refine tkP 15 ?_ rfl ?_ ?_
 rotate_left
 ·intro w' hSw; (try dsimp only at hSw); go_simp; try with_reducible rfl
 try simp only [ZP, ZA, ZB, ZC, ZD, ZE, ZF]
 have f0 : ∀ j, w3.frozen? ⟨X, j, none⟩ = false := HX3.out.frozen
 have z0 : w3.cell? ⟨X, 0, none⟩ = some (.pointer (some ⟨f.lb, 0, none⟩)) := HX3.out.cell 0
 have z1 : w3.cell? ⟨X, 1, none⟩ = some (.pointer (some ⟨f.kb, 0, none⟩)) := HX3.out.cell 1
 have z2 : w3.cell? ⟨X, 2, none⟩ = some (.pointer (some ⟨f.mb, 0, none⟩)) := HX3.out.cell 2
 refine tkR [16] ?_
 refine ZS rfl (fun K hK => ?_) ZN
 go_simp
 refine hK.out _ _ (HC3.out.setX hXw HNX.out 0 _) (fun hHeld => ?_)
 clear hK K
 try simp only [ZP, ZA, ZB, ZC, ZD, ZE, ZF]
 refine tkP 17 ?_ rfl ?_ ?_
 rotate_left
 ·intro w' hSw; (try dsimp only at hSw); go_simp; try with_reducible rfl
 try simp only [ZP, ZA, ZB, ZC, ZD, ZE, ZF]
 refine tkR [18] ?_
 refine ZS rfl (fun K hK => ?_) ZN
 go_simp
 refine hK.out _ _ ((HC3.out.setX hXw HNX.out 0 _).setX hXw HNX.out 1 _) (fun hHeld => ?_)
 clear hK K
 try simp only [ZP, ZA, ZB, ZC, ZD, ZE, ZF]
 refine tkP 19 ?_ rfl ?_ ?_
 rotate_left
 ·intro w' hSw; (try dsimp only at hSw); go_simp; try with_reducible rfl
 try simp only [ZP, ZA, ZB, ZC, ZD, ZE, ZF]
 refine tkR [20] ?_
 refine ZS rfl (fun K hK => ?_) ZN
 go_simp
 refine hK.out _ _ (((HC3.out.setX hXw HNX.out 0 _).setX hXw HNX.out 1 _).setX hXw HNX.out 2 _) (fun hHeld => ?_)
 clear hK K
 try simp only [ZP, ZA, ZB, ZC, ZD, ZE, ZF]
 refine wpAnyH_done (by kernel_rfl) ?_ _
 clear hHeld
 go_wp2_with fail
 go_ret
 have hO3 : Only [X] w3 (((w3.setCell ⟨X, 0, none⟩ (.pointer (some ⟨b1, 0, none⟩))).setCell ⟨X, 1, none⟩ (.pointer (some ⟨b2, 0, none⟩))).setCell ⟨X, 2, none⟩ (.pointer (some ⟨b3, 0, none⟩))) :=
  (((Only.refl _ _).setCell (.inl (by simp)) _).setCell (.inl (by simp)) _).setCell (.inl (by simp)) _
 have hzW : W0.heap.size = W0.drew.heap.size := rfl
 have hX0 := HX0.out.lt
 obtain ⟨n1, n2⟩ := HN1.out
 obtain ⟨n3, n4⟩ := HN2.out
 obtain ⟨n5, n6⟩ := HN3.out
 obtain ⟨u1, u2, u3⟩ := HU1.out
 obtain ⟨u4, u5⟩ := HU2.out
 obtain ⟨u6, u7⟩ := HS3.out.lt
 have hz0 : X < w1.heap.size := by omega
 have key : ∀ i x, (Ft.mk X b1 rb1 b2 g2 b3 g3).at i = some x → (i = 0 ∧ x = X) ∨ (i = 1 ∧ x = b1) ∨ (i = 2 ∧ x = rb1) ∨ (i = 3 ∧ x = b2) ∨ (i = 4 ∧ w1.heap.size ≤ x ∧ x < w2.heap.size ∧ x ≠ b2) ∨ (i = 5 ∧ x = b3) ∨ (i = 6 ∧ w2.heap.size ≤ x ∧ x < w3.heap.size ∧ x ≠ b3) := fun i x h => by
  match i, h with
  | 0, h => cases h; exact .inl ⟨rfl, rfl⟩
  | 1, h => cases h; exact .inr (.inl ⟨rfl, rfl⟩)
  | 2, h => cases h; exact .inr (.inr (.inl ⟨rfl, rfl⟩))
  | 3, h => cases h; exact .inr (.inr (.inr (.inl ⟨rfl, rfl⟩)))
  | 4, h => exact .inr (.inr (.inr (.inr (.inl ⟨rfl, n4 x h, (u5 x h).1, (u5 x h).2⟩))))
  | 5, h => cases h; exact .inr (.inr (.inr (.inr (.inr (.inl ⟨rfl, rfl⟩)))))
  | 6, h => exact .inr (.inr (.inr (.inr (.inr (.inr ⟨rfl, n6 x h, (u7 x h).1, (u7 x h).2⟩)))))
  | n + 7, h => cases h
 have n1' : W0.heap.size ≤ b1 := n1
 have n2' : W0.heap.size ≤ rb1 := n2
 have hne : Ft.Ne ⟨X, b1, rb1, b2, g2, b3, g3⟩ := by
  intro i j x hi hj
  rcases key i x hi with h | h | h | h | h | h | h <;> rcases key j x hj with h' | h' | h' | h' | h' | h' | h' <;> omega
 have hge : ∀ x ∈ (Ft.mk X b1 rb1 b2 g2 b3 g3).all, w.heap.size ≤ x := fun x hx => by
  obtain ⟨i, hi⟩ := (Ft.mem_all _ _).1 hx
  rcases key i x hi with h | h | h | h | h | h | h <;> omega
 refine ⟨⟨X, b1, rb1, b2, g2, b3, g3⟩, rfl, ⟨?_, ?_, ?_, ?_, hne⟩, hge, ?_⟩
 ·exact ((((HX3.out.set 0 _).set 1 _).set 2 _)).eq (by simp [spCells])
 ·exact HL3.out.only hO3 (by simp; omega) (by simp; omega)
 ·exact HS23.out.only hO3 (by simp; omega) (fun k hk => by have := n4 k hk; simp; omega)
 ·exact HS3.out.only hO3 (by simp; omega) (fun k hk => by have := n6 k hk; simp; omega)
 ·exact (((HC3.out.below.setCell (p := ⟨X, 0, none⟩) hXw _).setCell (p := ⟨X, 1, none⟩) hXw _).setCell (p := ⟨X, 2, none⟩) hXw _)
end Go.Proofs.YtgicljeedegncaaGreat
