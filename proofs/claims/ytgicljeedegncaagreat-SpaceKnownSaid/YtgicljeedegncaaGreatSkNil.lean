/-
 A space that is none: nil, or the zero value: what each call answers. Printed by wip/gensknil.py.
-/
import Derived.Test.YtgicljeedegncaaGreatSpcSent
import Derived.Test.YtgicljeedegncaaGreatTqSpgGaps
namespace Go.Proofs.YtgicljeedegncaaGreat
open List renaming getElem_toArray → ZA, getElem_cons_zero → ZB, getElem_cons_succ → ZC, setIfInBounds_toArray → ZD, set_cons_zero → ZE, set_cons_succ → ZF, getElem?_toArray → ZG, getElem?_cons_zero → ZH, getElem?_cons_succ → ZJ
open Go.AllReadyH renaming cons → ZS, nil → ZN
open Go.Act renaming put → ZP
open Go.Value renaming int → ZI
open Go.IntKind renaming i64 → ZQ
set_option linter.unusedSimpArgs false
set_option linter.unusedVariables false
open Go.RowKit

def NoSp (w : World) (v : Value) : Prop := v = .pointer none ∨ ∃ Z, v = .pointer (some ⟨Z, 0, none⟩) ∧ w.cell? ⟨Z, 0, none⟩ = some (.pointer none)
theorem NoSp.below {w w' : World} {v : Value} (h : NoSp w v) (hb : Below w.heap.size w w') : NoSp w' v := by
 rcases h with h | ⟨Z, h, hc⟩
 ·exact .inl h
 ·exact .inr ⟨Z, h, (hb.cell (p := ⟨Z, 0, none⟩) (World.block_lt_of_cell? w _ hc)).trans hc⟩
theorem NoSp.ptr {w : World} {v : Value} (h : NoSp w v) : ∃ o, v = .pointer o := by
 rcases h with h | ⟨Z, h, _⟩
 ·exact ⟨_, h⟩
 ·exact ⟨_, h⟩
theorem skn_none (v : Value) (w : World) (h : NoSp w v) : Calls Tryz.prog 49 #[v] w fun e w' => e = .returned (.bool true) ∧ w = w' := by
 rcases h with rfl | ⟨Z, rfl, hc⟩
 all_goals
  go_enter Tryz.func49, Tryz.ntmps49
  go_wp2
  go_ret
  exact ⟨rfl, rfl⟩
theorem skn_may (v : Value) (p : Pk) (w : World) (h : NoSp w v) : Calls Tryz.prog 41 #[v, pkA p] w fun e w' => e = .returned (ZI ZQ 1) ∧ Below w.heap.size w w' := by
 unfold pkA
 have HB := hide ((Below.refl w.heap.size w).alloc (Nat.le_refl _) (.cells #[ZI ZQ p.num, ZI ZQ p.time, ZI ZQ p.size, .bool p.el, .bool p.fl, .bool p.ect] 40))
 have HN := hide (skn_none _ _ (h.below HB.out))
 have H := hide (h.below HB.out)
 have HX := hide (Blk.new w 40 #[ZI ZQ p.num, ZI ZQ p.time, ZI ZQ p.size, .bool p.el, .bool p.fl, .bool p.ect])
 clear h
 go_enter Tryz.func41, Tryz.ntmps41
 go_wp2_with fail
 refine HN.out.mono ?_
 rintro e1 w1 ⟨rfl, rfl⟩
 go_wp2_with fail
 go_ret
 exact ⟨rfl, HB.out⟩
set_option maxHeartbeats 1000000 in
theorem skn_sent (v : Value) (p : Pk) (w : World) (h : NoSp w v) : Calls Tryz.prog 25 #[v, pkA p] w fun e w' => e = .returned (ZI ZQ 1) ∧ Below w.heap.size w w' := by
 unfold pkA
 have HB := hide ((Below.refl w.heap.size w).alloc (Nat.le_refl _) (.cells #[ZI ZQ p.num, ZI ZQ p.time, ZI ZQ p.size, .bool p.el, .bool p.fl, .bool p.ect] 40))
 have HN := hide (skn_none _ _ (h.below HB.out))
 have H := hide (h.below HB.out)
 have HX := hide (Blk.new w 40 #[ZI ZQ p.num, ZI ZQ p.time, ZI ZQ p.size, .bool p.el, .bool p.fl, .bool p.ect])
 clear h
 go_enter Tryz.func25, Tryz.ntmps25
 have y0 := HX.out.cell 0
 have y1 := HX.out.cell 1
 have y2 := HX.out.cell 2
 have y3 := HX.out.cell 3
 have y4 := HX.out.cell 4
 have y5 := HX.out.cell 5
 simp only [ZG, ZH, ZJ] at y0 y1 y2 y3 y4 y5
 go_wp2_with fail
 refine (skn_may v p _ H.out).mono ?_
 rintro e1 w1 ⟨rfl, hb1⟩
 go_wp2_with fail
 go_ret
 exact ⟨rfl, bw_below' HB.out hb1⟩
theorem skn_ack (v : Value) (cs : Array Value) (w : World) (h : NoSp w v) : Calls Tryz.prog 21 #[v, .agg cs] w fun e w' => e = .returned (.tuple #[.slice none 0 0, ZI ZQ 1]) ∧ Below w.heap.size w w' := by
 have HB := hide ((Below.refl w.heap.size w).alloc (Nat.le_refl _) (.cells cs 52))
 have HN := hide (skn_none _ _ (h.below HB.out))
 have H := hide (h.below HB.out)
 have HX := hide (Blk.new w 52 cs)
 clear h
 go_enter Tryz.func21, Tryz.ntmps21
 go_wp2_with fail
 refine HN.out.mono ?_
 rintro e1 w1 ⟨rfl, rfl⟩
 go_wp2_with fail
 go_ret2
 exact ⟨rfl, HB.out⟩
theorem skn_lose (v : Value) (now : Int) (r : RT) (w : World) (h : NoSp w v) : Calls Tryz.prog 17 #[v, ZI ZQ now, rtV r] w fun e w' => e = .returned (.tuple #[.slice none 0 0, ZI ZQ 1]) ∧ Below w.heap.size w w' := by
 unfold rtV
 have HB := hide ((Below.refl w.heap.size w).alloc (Nat.le_refl _) (.cells #[ZI ZQ r.latest, ZI ZQ r.min, ZI ZQ r.smooth, ZI ZQ r.var, ZI ZQ r.first] 45))
 have HN := hide (skn_none _ _ (h.below HB.out))
 have H := hide (h.below HB.out)
 have HX := hide (Blk.new w 45 #[ZI ZQ r.latest, ZI ZQ r.min, ZI ZQ r.smooth, ZI ZQ r.var, ZI ZQ r.first])
 clear h
 go_enter Tryz.func17, Tryz.ntmps17
 go_wp2_with fail
 refine HN.out.mono ?_
 rintro e1 w1 ⟨rfl, rfl⟩
 go_wp2_with fail
 go_ret2
 exact ⟨rfl, HB.out⟩
theorem skn_discard (v : Value) (w : World) (h : NoSp w v) : Calls Tryz.prog 29 #[v] w fun e w' => e = .returned (.tuple #[]) ∧ Below w.heap.size w w' := by
 have HB := hide (Below.refl w.heap.size w)
 have HN := hide (skn_none _ _ (h.below HB.out))
 have H := hide (h.below HB.out)
 clear h
 go_enter Tryz.func29, Tryz.ntmps29
 go_wp2_with fail
 refine HN.out.mono ?_
 rintro e1 w1 ⟨rfl, rfl⟩
 go_wp2_with fail
 exact bodyPost_ret (results_none rfl _ _ _) rfl ⟨rfl, HB.out⟩
theorem skn_all (v : Value) (w : World) (h : NoSp w v) : Calls Tryz.prog 14 #[v] w fun e w' => e = .returned (.slice none 0 0) ∧ Below w.heap.size w w' := by
 have HB := hide (Below.refl w.heap.size w)
 have HN := hide (skn_none _ _ (h.below HB.out))
 have H := hide (h.below HB.out)
 clear h
 go_enter Tryz.func14, Tryz.ntmps14
 go_wp2_with fail
 refine HN.out.mono ?_
 rintro e1 w1 ⟨rfl, rfl⟩
 go_wp2_with fail
 go_ret
 exact ⟨rfl, HB.out⟩
theorem skn_copy (v : Value) (w : World) (h : NoSp w v) : Calls Tryz.prog 36 #[v] w fun e w' => e = .returned (.pointer none) ∧ Below w.heap.size w w' := by
 have HB := hide (Below.refl w.heap.size w)
 have HN := hide (skn_none _ _ (h.below HB.out))
 have H := hide (h.below HB.out)
 clear h
 go_enter Tryz.func36, Tryz.ntmps36
 go_wp2_with fail
 refine HN.out.mono ?_
 rintro e1 w1 ⟨rfl, rfl⟩
 go_wp2_with fail
 go_ret
 exact ⟨rfl, HB.out⟩
set_option maxHeartbeats 1000000 in
theorem skn_persists (v : Value) (u : Value) (r : RT) (d : Int) (w : World) (h : NoSp w v) : Calls Tryz.prog 42 #[v, u, rtV r, ZI ZQ d] w fun e w' => e = .returned (.bool false) ∧ Below w.heap.size w w' := by
 unfold rtV
 have HB := hide ((Below.refl w.heap.size w).alloc (Nat.le_refl _) (.cells #[ZI ZQ r.latest, ZI ZQ r.min, ZI ZQ r.smooth, ZI ZQ r.var, ZI ZQ r.first] 45))
 have HN := hide (skn_none _ _ (h.below HB.out))
 have H := hide (h.below HB.out)
 have HX := hide (Blk.new w 45 #[ZI ZQ r.latest, ZI ZQ r.min, ZI ZQ r.smooth, ZI ZQ r.var, ZI ZQ r.first])
 clear h
 go_enter Tryz.func42, Tryz.ntmps42
 go_upto_region 1 with (fail)
 have HN2 := hide (skn_none v _ (H.out.below (below_drewN (Below.refl _ _) 1)))
 have HB2 := hide (bw_below' HB.out (below_drewN (Below.refl _ _) 1))
 obtain ⟨hx0, hx1⟩ : True ∧ True := ⟨trivial, trivial⟩
 refine wp_region_held_drew (S := (fun _ => True)) (by kernel_rfl) (trivial) (fun hHeld => ?_)
 refine tkP 0 ?_ rfl ?_ ?_
 rotate_left
 ·intro w' hSw; (try dsimp only at hSw); go_simp; try with_reducible rfl
 try simp only [ZP, ZA, ZB, ZC, ZD, ZE, ZF]
 refine tkR [1] ?_
 refine ZS rfl (fun K hK => ?_) ZN
 go_simp
 go_at_call 49
 refine HN2.out.mono ?_
 rintro e1 w1 ⟨rfl, rfl⟩
 refine hK.out _ _ (trivial) (fun hHeld => ?_)
 clear hK K
 try simp only [ZP, ZA, ZB, ZC, ZD, ZE, ZF]
 refine tkP 2 ?_ rfl ?_ ?_
 rotate_left
 ·intro w' hSw; (try dsimp only at hSw); go_simp; try with_reducible rfl
 try simp only [ZP, ZA, ZB, ZC, ZD, ZE, ZF]
 refine tkP 3 ?_ rfl ?_ ?_
 rotate_left
 ·intro w' hSw; (try dsimp only at hSw); go_simp; try with_reducible rfl
 try simp only [ZP, ZA, ZB, ZC, ZD, ZE, ZF]
 refine tkU 4 rfl (fun _ _ _ h => h) ?_
 try simp only [ZP, ZA, ZB, ZC, ZD, ZE, ZF]
 refine tkU 5 rfl (fun _ _ _ h => h) ?_
 try simp only [ZP, ZA, ZB, ZC, ZD, ZE, ZF]
 refine tkU 6 rfl (fun _ _ _ h => h) ?_
 try simp only [ZP, ZA, ZB, ZC, ZD, ZE, ZF]
 refine tkU 7 rfl (fun _ _ _ h => h) ?_
 try simp only [ZP, ZA, ZB, ZC, ZD, ZE, ZF]
 refine tkU 8 rfl (fun _ _ _ h => h) ?_
 try simp only [ZP, ZA, ZB, ZC, ZD, ZE, ZF]
 refine tkU 9 rfl (fun _ _ _ h => h) ?_
 try simp only [ZP, ZA, ZB, ZC, ZD, ZE, ZF]
 refine tkU 10 rfl (fun _ _ _ h => h) ?_
 try simp only [ZP, ZA, ZB, ZC, ZD, ZE, ZF]
 refine tkU 11 rfl (fun _ _ _ h => h) ?_
 try simp only [ZP, ZA, ZB, ZC, ZD, ZE, ZF]
 refine tkP 12 ?_ rfl ?_ ?_
 rotate_left
 ·intro w' hSw; (try dsimp only at hSw); go_simp; try with_reducible rfl
 try simp only [ZP, ZA, ZB, ZC, ZD, ZE, ZF]
 refine tkP 13 ?_ rfl ?_ ?_
 rotate_left
 ·intro w' hSw; (try dsimp only at hSw); go_simp; try with_reducible rfl
 try simp only [ZP, ZA, ZB, ZC, ZD, ZE, ZF]
 refine wpAnyH_done (by kernel_rfl) ?_ _
 go_wp2_with fail
 go_ret
 exact ⟨rfl, HB2.out⟩
theorem skn_one (v g : Value) (w : World) (h : NoSp w v) : Calls Tryz.prog 47 #[v, g] w fun e w' => e = .returned (ZI ZQ (-1)) ∧ w = w' := by
 have HN := hide (skn_none v w h)
 clear h
 go_enter Tryz.func47, Tryz.ntmps47
 go_wp2_with fail
 refine HN.out.mono ?_
 rintro e1 w1 ⟨rfl, rfl⟩
 go_wp2_with fail
 go_ret
 exact ⟨rfl, rfl⟩
set_option maxRecDepth 100000 in
set_option maxHeartbeats 1000000 in
theorem skn_last (v : Value) (w : World) (h : NoSp w v) : Calls Tryz.prog 20 #[v] w fun e w' => e = .returned (ZI ZQ (-1)) ∧ Below w.heap.size w w' := by
 obtain ⟨o, rfl⟩ := h.ptr
 have HB := hide ((Below.refl w.heap.size w).alloc (Nat.le_refl _) (.cells #[.pointer o] 23))
 have HN := hide (skn_none _ _ (h.below HB.out))
 have H := hide (h.below HB.out)
 have HX := hide (Blk.new w 23 #[.pointer o])
 clear h
 go_enter Tryz.func20, Tryz.ntmps20
 have y0 := HX.out.cell 0
 simp only [ZG, ZH] at y0
 go_wp2_with (go_at_call 47; refine (skn_one _ _ _ H.out).mono ?_; rintro e1 w1 ⟨rfl, rfl⟩)
 go_ret
 exact ⟨rfl, HB.out⟩
set_option maxRecDepth 100000 in
set_option maxHeartbeats 1000000 in
theorem skn_greatest (v : Value) (w : World) (h : NoSp w v) : Calls Tryz.prog 13 #[v] w fun e w' => e = .returned (ZI ZQ (-1)) ∧ Below w.heap.size w w' := by
 obtain ⟨o, rfl⟩ := h.ptr
 have HB := hide ((Below.refl w.heap.size w).alloc (Nat.le_refl _) (.cells #[.pointer o] 23))
 have HN := hide (skn_none _ _ (h.below HB.out))
 have H := hide (h.below HB.out)
 have HX := hide (Blk.new w 23 #[.pointer o])
 clear h
 go_enter Tryz.func13, Tryz.ntmps13
 have y0 := HX.out.cell 0
 simp only [ZG, ZH] at y0
 go_wp2_with (go_at_call 47; refine (skn_one _ _ _ H.out).mono ?_; rintro e1 w1 ⟨rfl, rfl⟩)
 go_ret
 exact ⟨rfl, HB.out⟩
set_option maxRecDepth 100000 in
set_option maxHeartbeats 1000000 in
theorem skn_loss (v : Value) (w : World) (h : NoSp w v) : Calls Tryz.prog 15 #[v] w fun e w' => e = .returned (ZI ZQ (-1)) ∧ Below w.heap.size w w' := by
 obtain ⟨o, rfl⟩ := h.ptr
 have HB := hide ((Below.refl w.heap.size w).alloc (Nat.le_refl _) (.cells #[.pointer o] 23))
 have HN := hide (skn_none _ _ (h.below HB.out))
 have H := hide (h.below HB.out)
 have HX := hide (Blk.new w 23 #[.pointer o])
 clear h
 go_enter Tryz.func15, Tryz.ntmps15
 have y0 := HX.out.cell 0
 simp only [ZG, ZH] at y0
 go_wp2_with (go_at_call 47; refine (skn_one _ _ _ H.out).mono ?_; rintro e1 w1 ⟨rfl, rfl⟩)
 go_ret
 exact ⟨rfl, HB.out⟩
set_option maxRecDepth 100000 in
set_option maxHeartbeats 1000000 in
theorem skn_time (v : Value) (w : World) (h : NoSp w v) : Calls Tryz.prog 30 #[v] w fun e w' => e = .returned (ZI ZQ (-1)) ∧ Below w.heap.size w w' := by
 obtain ⟨o, rfl⟩ := h.ptr
 have HB := hide ((Below.refl w.heap.size w).alloc (Nat.le_refl _) (.cells #[.pointer o] 23))
 have HN := hide (skn_none _ _ (h.below HB.out))
 have H := hide (h.below HB.out)
 have HX := hide (Blk.new w 23 #[.pointer o])
 clear h
 go_enter Tryz.func30, Tryz.ntmps30
 have y0 := HX.out.cell 0
 simp only [ZG, ZH] at y0
 go_wp2_with (go_at_call 47; refine (skn_one _ _ _ H.out).mono ?_; rintro e1 w1 ⟨rfl, rfl⟩)
 go_ret
 exact ⟨rfl, HB.out⟩
set_option maxRecDepth 100000 in
set_option maxHeartbeats 1000000 in
theorem skn_flight (v : Value) (w : World) (h : NoSp w v) : Calls Tryz.prog 27 #[v] w fun e w' => e = .returned (ZI ZQ 0) ∧ Below w.heap.size w w' := by
 obtain ⟨o, rfl⟩ := h.ptr
 have HB := hide ((Below.refl w.heap.size w).alloc (Nat.le_refl _) (.cells #[.pointer o] 23))
 have HN := hide (skn_none _ _ (h.below HB.out))
 have H := hide (h.below HB.out)
 have HX := hide (Blk.new w 23 #[.pointer o])
 clear h
 go_enter Tryz.func27, Tryz.ntmps27
 have y0 := HX.out.cell 0
 simp only [ZG, ZH] at y0
 go_wp2_with (go_at_call 47; refine (skn_one _ _ _ H.out).mono ?_; rintro e1 w1 ⟨rfl, rfl⟩)
 go_ret
 exact ⟨rfl, HB.out⟩
set_option maxRecDepth 100000 in
set_option maxHeartbeats 1000000 in
theorem skn_eliciting (v : Value) (w : World) (h : NoSp w v) : Calls Tryz.prog 28 #[v] w fun e w' => e = .returned (ZI ZQ 0) ∧ Below w.heap.size w w' := by
 obtain ⟨o, rfl⟩ := h.ptr
 have HB := hide ((Below.refl w.heap.size w).alloc (Nat.le_refl _) (.cells #[.pointer o] 23))
 have HN := hide (skn_none _ _ (h.below HB.out))
 have H := hide (h.below HB.out)
 have HX := hide (Blk.new w 23 #[.pointer o])
 clear h
 go_enter Tryz.func28, Tryz.ntmps28
 have y0 := HX.out.cell 0
 simp only [ZG, ZH] at y0
 go_wp2_with (go_at_call 47; refine (skn_one _ _ _ H.out).mono ?_; rintro e1 w1 ⟨rfl, rfl⟩)
 go_ret
 exact ⟨rfl, HB.out⟩
end Go.Proofs.YtgicljeedegncaaGreat
